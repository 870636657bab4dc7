/-
  Lists of tiles in the laws: copies, comparisons of equal lists, sizes. No condition but that lengths stay in range.
-/
import Derived.Test.YtkcabllnlbcgdaaRws
import Derived.Test.YtkcabllnlbcgdaaFam
namespace Go.Proofs.Ytkcabllnlbcgdaa
open Go.RowKit
set_option linter.unusedVariables false
set_option linter.unusedSimpArgs false
theorem fl64_all {ts : List (List Int)} (h : ∀ t ∈ ts, t.length = 64) : ∀ t ∈ ts.map iv, t.length = 64 := fun t ht => by
  obtain ⟨s, hs, rfl⟩ := List.mem_map.1 ht
  rw [iv_len]; exact h s hs
theorem setL_fl64 {ts : List (List Int)} {k : Nat} (h : ∀ t ∈ ts, t.length = 64) (hk : k < ts.length) (p : List Int) (hp : p.length = 64) : setL (fl64 ts) (k * 64) (iv p) = fl64 (ts.set k p) := by
  unfold fl64
  rw [setL_flat (fl64_all h) (by simpa using hk) (by rw [iv_len]; exact hp), List.map_set]
def z64 : List Int := List.replicate 64 0
theorem fl64_zeros (n : Nat) : (List.replicate n (iv z64)).flatten = fl64 (List.replicate n z64) := by unfold fl64; rw [List.map_replicate]
theorem tile_infoZ : (Try.prog.info? 83).map (fun i => (i.zero, i.size, i.bytes)) = some (some (.agg (iv z64).toArray), (iv z64).length, 512) := by kernel_rfl
theorem ti_of_own {w : World} {base e n c : Nat} {A : Option Addr} {ts : List (List Int)} (h : w.ownsRow base e 64 (.slice A n c) n (fl64 ts)) (ht : ∀ t ∈ ts, t.length = 64) : TiRd w w.heap.size A n ts := ⟨by have := h.1; rw [fl64_len ts ht] at this; omega, ht, Reads.of_own h⟩
theorem arr_sizeA {px : List Int} (h : px.length = 64) : (Try.prog.info? 81).map (·.size) = some (iv px).toArray.size := by rw [List.size_toArray, iv_len, h]; kernel_rfl
theorem arr_size {px : List Int} (h : px.length = 64) : (Try.prog.info? 81).map (·.size) = some (iv px).length := by rw [iv_len, h]; kernel_rfl
theorem tile_sizeA {px : List Int} (h : px.length = 64) : (Try.prog.info? 83).map (·.size) = some (iv px).toArray.size := by rw [List.size_toArray, iv_len, h]; exact tile_info
theorem tile_size {px : List Int} (h : px.length = 64) : (Try.prog.info? 83).map (·.size) = some (iv px).length := by rw [iv_len, h]; exact tile_info
theorem set_copyA (k : Nat) (xs : List Int) (hl : xs.length = 64) (hk : k < 64) : (iv (xs.take k ++ List.replicate (64 - k) 0)).toArray.setIfInBounds k (.int .i64 (xs.getD k 0)) = (iv (xs.take (k + 1) ++ List.replicate (64 - (k + 1)) 0)).toArray := by
  rw [List.setIfInBounds_toArray, set_copy 64 k xs hl hk]
set_option maxRecDepth 20000 in
set_option maxHeartbeats 2000000 in
theorem toIntA64_any (px : List Int) (hp : px.length = 64) (w : World) :
    Calls Try.prog 96 #[.agg (iv px).toArray] w fun e w' => e = .returned (.agg (iv px).toArray) ∧ Below w.heap.size w w' := by
  obtain ⟨cs, hcs⟩ : ∃ cs, cs = (iv px).toArray := ⟨_, rfl⟩
  rw [← hcs]
  have HC := Lib.hid (show ∀ k, k < 64 → cs[k]? = some (.int .i64 (px.getD k 0)) from fun k hk => by
    rw [hcs]; simpa using iv_getD (show k < px.length by omega))
  replace hcs := Lib.hid hcs
  go_enter Try.func96, Try.ntmps96
  go_wp2_with fail
  go_loopw [4] (fun i wr => ∃ k : Nat, k ≤ 64 ∧ i = .int .i64 k ∧ Blk wr w.heap.size 81 cs ∧ Blk wr (w.heap.size + 1) 81 (iv z64).toArray ∧ Blk wr (w.heap.size + 2) 81 (iv (px.take k ++ List.replicate (64 - k) 0)).toArray ∧ Below w.heap.size w wr) (fun i _ => 64 - (intOf i).toNat)
  case atStart =>
    refine ⟨0, Nat.zero_le _, rfl, ?_, ?_, ?_, ?_⟩
    · exact ((Blk.new w 81 cs).alloc _).alloc _
    · have h := (Blk.new (w.alloc (.cells cs 81)) 81 (iv z64).toArray).alloc (.cells (iv z64).toArray 81)
      rw [show (w.alloc (.cells cs 81)).heap.size = w.heap.size + 1 by simp] at h
      exact h
    · have h := Blk.new ((w.alloc (.cells cs 81)).alloc (.cells (iv z64).toArray 81)) 81 (iv z64).toArray
      rw [show ((w.alloc (.cells cs 81)).alloc (.cells (iv z64).toArray 81)).heap.size = w.heap.size + 2 by simp] at h
      exact h
    · exact (((Below.refl _ _).alloc (Nat.le_refl _) _).alloc (by simp) _).alloc (by simp; omega) _
  case round =>
    obtain ⟨k, hk, rfl, b0, b1, b2, hb⟩ := hrel
    by_cases hlt : k < 64
    · have q0 : (0 : Int) ≤ (k : Int) := by omega
      have q1 : (k : Int) < 64 := by omega
      have c0 := (b0.cell k).trans (HC.out k hlt)
      obtain ⟨u, hu⟩ : ∃ u, (iv (px.take k ++ List.replicate (64 - k) 0)).toArray[k]? = some u := by
        have h1 : k < (iv (px.take k ++ List.replicate (64 - k) 0)).toArray.size := by rw [List.size_toArray, iv_len]; simp [hp]; omega
        exact ⟨_, Array.getElem?_eq_getElem h1⟩
      have c2 := (b2.cell k).trans hu
      have f2 := b2.frozen k
      have s2 := b2.set_ k (.int .i64 (px.getD k 0))
      rw [set_copyA k px hp hlt] at s2
      have s0 := b0.far (p := ⟨w.heap.size + 2, k, none⟩) (by simp) (.int .i64 (px.getD k 0))
      have s1 := b1.far (p := ⟨w.heap.size + 2, k, none⟩) (by simp) (.int .i64 (px.getD k 0))
      have hb2 := hb.setCell (p := ⟨w.heap.size + 2, k, none⟩) (by show w.heap.size ≤ w.heap.size + 2; omega) (.int .i64 (px.getD k 0))
      have HS := Lib.hid (And.intro s0 (And.intro s1 (And.intro s2 hb2)))
      clear s0 s1 s2 hb2 b0 b1 b2 hb hu
      generalize px.getD k 0 = x at c0 HS
      go_wp2_with fail
      go_roundw
      case rel => exact ⟨k + 1, by omega, by go_num, HS.out⟩
      case measure => simp [intOf]; omega
    · obtain rfl : k = 64 := by omega
      have hg : px.take 64 ++ List.replicate (64 - 64) 0 = px := by rw [Nat.sub_self, List.replicate_zero, List.append_nil, List.take_of_length_le (by omega)]
      rw [hg] at b2
      have B1 := Lib.hid b1
      have B2 := Lib.hid b2
      have HB := Lib.hid hb
      have q1 : ¬ ((64 : Nat) : Int) < 64 := by omega
      clear b0 b1 b2 hb
      go_wp2_with (first | (refine at_load (ty := 81) rfl ?_; refine wpList_load_row rfl 81 _ rfl (w.heap.size + 2) rfl 81 (iv px).toArray (0, 0) _ B2.out Try.underlying81 rfl (arr_sizeA hp) ?_) | (refine at_store (ty := 81) rfl ?_; refine wpList_store_row rfl 81 _ _ rfl (w.heap.size + 1) (iv px).toArray rfl rfl 81 (iv z64).toArray B1.out (arr_sizeA hp) (by rw [List.size_toArray, List.size_toArray, iv_len, iv_len, hp]; rfl) (iv_one px) ?_))
      rw [← hcs.out]
      refine bodyPost_ret (v := .agg cs) ?_ rfl ⟨rfl, below_setRow HB.out (by omega) _⟩
      refine results_cell_row Try.results96 _ _ (w.heap.size + 1) 81 cs (0, 0) _ rfl ?_ Try.underlying81 rfl (by rw [hcs.out]; exact arr_sizeA hp)
      exact setRow_heap _ _ _ _ _ _ B1.out
theorem blk3 (w : World) (a b c : Array Value) (t1 t2 t3 : TypeId) : Blk (((w.alloc (.cells a t1)).alloc (.cells b t2)).alloc (.cells c t3)) w.heap.size t1 a ∧ Blk (((w.alloc (.cells a t1)).alloc (.cells b t2)).alloc (.cells c t3)) (w.heap.size + 1) t2 b ∧ Blk (((w.alloc (.cells a t1)).alloc (.cells b t2)).alloc (.cells c t3)) (w.heap.size + 2) t3 c := by
  refine ⟨((Blk.new w t1 a).alloc _).alloc _, ?_, ?_⟩
  · have h := (Blk.new (w.alloc (.cells a t1)) t2 b).alloc (.cells c t3)
    rw [show (w.alloc (.cells a t1)).heap.size = w.heap.size + 1 by simp] at h
    exact h
  · have h := Blk.new ((w.alloc (.cells a t1)).alloc (.cells b t2)) t3 c
    rw [show ((w.alloc (.cells a t1)).alloc (.cells b t2)).heap.size = w.heap.size + 2 by simp] at h
    exact h
set_option maxRecDepth 20000 in
set_option maxHeartbeats 2000000 in
theorem toTile_any (px : List Int) (hp : px.length = 64) (w : World) :
    Calls Try.prog 85 #[.agg (iv px).toArray] w fun e w' => e = .returned (.agg (iv px).toArray) ∧ Below w.heap.size w w' := by
  have h3 := blk3 w (iv px).toArray (iv z64).toArray (iv z64).toArray 117 83 83
  have hb0 : Below w.heap.size w (((w.alloc (.cells (iv px).toArray 117)).alloc (.cells (iv z64).toArray 83)).alloc (.cells (iv z64).toArray 83)) := (((Below.refl _ _).alloc (Nat.le_refl _) _).alloc (by simp) _).alloc (by simp; omega) _
  have HR := Lib.hid (show (((w.alloc (.cells (iv px).toArray 117)).alloc (.cells (iv z64).toArray 83)).alloc (.cells (iv z64).toArray 83)).rangeAt w.heap.size 0 (iv px) from fun j v hj => by rw [Nat.zero_add, h3.1.cell]; simpa using hj)
  obtain ⟨-, h31, h32⟩ := h3
  have H1 := Lib.hid h31
  have H2 := Lib.hid h32
  have HB0 := Lib.hid hb0
  have HP := Lib.hid hp
  clear h31 h32 hb0 hp
  obtain ⟨cs, hcs⟩ : ∃ cs, cs = (iv px).toArray := ⟨_, rfl⟩
  rw [← hcs] at HR H1 H2 HB0 ⊢
  replace hcs := Lib.hid hcs
  go_enter Try.func85, Try.ntmps85
  go_wp2_with (first | (refine at_load (ty := 81) rfl ?_; refine wpList_load_mid rfl 81 _ rfl w.heap.size 0 rfl (iv px) _ HR.out Try.underlying81 rfl (arr_size HP.out) ?_) | (go_at_call 96; refine (toIntA64_any px HP.out _).mono ?_; rintro e w5 ⟨rfl, b5⟩; have B1 := Lib.hid (H1.out.below b5 (by simp)); have B2 := Lib.hid (H2.out.below b5 (by simp)); have hb5 := Lib.hid (below_step HB0.out b5 HB0.out.size); clear b5) | (refine at_store (ty := 81) rfl ?_; refine wpList_store_row rfl 81 _ _ rfl (w.heap.size + 2) (iv px).toArray rfl rfl 83 (iv z64).toArray B2.out (arr_sizeA HP.out) (by rw [List.size_toArray, List.size_toArray, iv_len, iv_len, HP.out]; rfl) (iv_one px) ?_; have B3 := Lib.hid (setRow_heap _ _ _ (iv px).toArray _ _ B2.out); have B4 := Lib.hid ((setRow_other w5 (w.heap.size + 2) (w.heap.size + 1) (iv px).toArray (by omega)).trans B1.out)) | (refine at_load (ty := 83) rfl ?_; refine wpList_load_row rfl 83 _ rfl (w.heap.size + 2) rfl 83 (iv px).toArray (0, 0) _ B3.out Try.underlying83 rfl (tile_sizeA HP.out) ?_) | (refine at_store (ty := 83) rfl ?_; refine wpList_store_row rfl 83 _ _ rfl (w.heap.size + 1) (iv px).toArray rfl rfl 83 (iv z64).toArray B4.out (tile_sizeA HP.out) (by rw [List.size_toArray, List.size_toArray, iv_len, iv_len, HP.out]; rfl) (iv_one px) ?_))
  rw [← hcs.out]
  refine bodyPost_ret (v := .agg cs) ?_ rfl ⟨rfl, below_setRow (below_setRow hb5.out (by omega) _) (by omega) _⟩
  refine results_cell_row Try.results85 _ _ (w.heap.size + 1) 83 cs (0, 0) _ rfl ?_ Try.underlying83 rfl (by rw [hcs.out]; exact tile_sizeA HP.out)
  rw [hcs.out]
  exact setRow_heap _ _ _ _ _ _ B4.out
theorem ltile_size {px : List Int} (h : px.length = 64) : (Try.prog.info? 117).map (·.size) = some (iv px).length := by rw [iv_len, h]; kernel_rfl
set_option maxRecDepth 20000 in
set_option maxHeartbeats 2000000 in
theorem toTileS_any (A : Option Addr) (n c : Nat) (ts : List (List Int)) (w : World) (h : TiRd w w.heap.size A n ts) (hn : n ≤ 100000000) :
    Calls Try.prog 61 #[.slice A n c] w fun e w' => ∃ A' c', e = .returned (.slice A' n c') ∧ w'.ownsRow w.heap.size 83 64 (.slice A' n c') n (fl64 ts) ∧ Below w.heap.size w w' := by
  have hl := h.1
  have H64 := Lib.hid h.2.1
  have H := Lib.hid h
  clear h
  go_enter Try.func61, Try.ntmps61
  go_wp2_with (at_make; refine make_rows _ rfl _ _ 24 83 (iv z64) 512 rfl Try.underlying24 tile_infoZ (by decide) (by omega) n rfl rfl (by omega) ?_; intro w1 ho1 hb1; replace ho1 := Lib.hid ho1; replace hb1 := Lib.hid hb1)
  go_loopw [4] (fun i wr => ∃ k : Nat, k ≤ n ∧ i = .int .i64 k ∧ wr.ownsRow w.heap.size 83 64 (.slice (some ⟨w.heap.size, 0, none⟩) n n) n (fl64 (ts.take k ++ List.replicate (n - k) z64)) ∧ Below w.heap.size w wr) (fun i _ => n - (intOf i).toNat)
  case atStart => exact ⟨0, Nat.zero_le _, rfl, by have h6 : w1.ownsRow w.heap.size 83 64 (.slice (some ⟨w.heap.size, 0, none⟩) n n) n (List.replicate n (iv z64)).flatten := ho1.out; rw [fl64_zeros] at h6; simpa using h6, hb1.out⟩
  case round =>
    obtain ⟨k, hk, rfl, hown, hb⟩ := hrel
    by_cases hlt : k < n
    · obtain ⟨b, off, rfl, hb1', hc⟩ := (H.out.below hb).spot hlt
      have hpl := H.out.len hlt
      have hgrow := rows_grow z64 n k ts hl hlt
      have hmx : ∀ t ∈ ts.take k ++ List.replicate (n - k) z64, t.length = 64 := fun t ht => by
        rcases List.mem_append.1 ht with h | h
        · exact H64.out t (List.mem_of_mem_take h)
        · rw [List.eq_of_mem_replicate h]; rfl
      obtain ⟨s, hs⟩ : ∃ s, ts.getD k [] = s := ⟨_, rfl⟩
      rw [hs] at hc hpl
      have hs2 : ts.getD k z64 = s := by rw [← hs, List.getD_eq_getElem?_getD, List.getD_eq_getElem?_getD, List.getElem?_eq_getElem (show k < ts.length by omega)]; rfl
      rw [hs2] at hgrow
      replace hgrow := Lib.hid hgrow
      replace hmx := Lib.hid hmx
      have HPL := Lib.hid hpl
      have HC := Lib.hid hc
      have HO := Lib.hid hown
      have HB := Lib.hid hb
      have q0 : (0 : Int) ≤ (k : Int) := by omega
      have q1 : (k : Int) < (n : Int) := by omega
      clear hc hown hb ho1 hb1 hpl
      go_wp2_with (first | (refine at_load (ty := 117) rfl ?_; refine wpList_load_mid rfl 117 _ rfl b (off + k * 64) rfl (iv s) _ HC.out Try.underlying117 rfl (ltile_size HPL.out) ?_) | (go_at_call 85; refine (toTile_any s HPL.out _).mono ?_; rintro e w5 ⟨rfl, b5⟩; have o5 := Lib.hid (own_below HO.out b5); have t5 := Lib.hid (own_there o5.out (o := k * 64) (m := (iv s).toArray.size) (by rw [List.size_toArray, iv_len, HPL.out]; omega)); replace b5 := Lib.hid b5) | (refine at_store (ty := 83) rfl ?_; refine wpList_store_mid rfl 83 _ _ rfl w.heap.size (k * 64) (iv s).toArray rfl rfl t5.out (tile_sizeA HPL.out) (iv_one s) ?_))
      have hst := own_setCells (iv s) (k * 64) _ _ o5.out
      rw [setL_fl64 hmx.out (by simp; omega) s HPL.out, hgrow.out] at hst
      have HST := Lib.hid hst
      clear hst
      go_wp2_with fail
      go_roundw
      case rel => exact ⟨k + 1, by omega, by go_num, HST.out.1, (below_step HB.out b5.out HB.out.size).grown HST.out.2 (below_step HB.out b5.out HB.out.size).size (by intro k hk; injection hk with hk; omega)⟩
      case measure => simp [intOf]; omega
    · obtain rfl : k = n := by omega
      have hg : ts.take k ++ List.replicate (k - k) z64 = ts := by rw [Nat.sub_self, List.replicate_zero, List.append_nil, List.take_of_length_le (by omega)]
      rw [hg] at hown
      replace hown := Lib.hid hown
      replace hb := Lib.hid hb
      clear ho1 hb1
      go_wp2_with fail
      go_ret
      exact ⟨_, _, rfl, hown.out, hb.out⟩
set_option maxRecDepth 20000 in
set_option maxHeartbeats 2000000 in
theorem eqIntA64_same (px : List Int) (hp : px.length = 64) (w : World) :
    Calls Try.prog 97 #[.agg (iv px).toArray, .agg (iv px).toArray] w fun e w' => e = .returned (.bool true) ∧ Below w.heap.size w w' := by
  obtain ⟨cs, hcs⟩ : ∃ cs, cs = (iv px).toArray := ⟨_, rfl⟩
  rw [← hcs]
  have HC := Lib.hid (show ∀ k, k < 64 → cs[k]? = some (.int .i64 (px.getD k 0)) from fun k hk => by
    rw [hcs]; simpa using iv_getD (show k < px.length by omega))
  replace hcs := Lib.hid hcs
  have hb0 : Below w.heap.size w ((w.alloc (.cells cs 81)).alloc (.cells cs 81)) := ((Below.refl _ _).alloc (Nat.le_refl _) _).alloc (by simp) _
  have h1 := (Blk.new w 81 cs).alloc (.cells cs 81)
  have h2 := Blk.new (w.alloc (.cells cs 81)) 81 cs
  rw [show (w.alloc (.cells cs 81)).heap.size = w.heap.size + 1 by simp] at h2
  have HB0 := Lib.hid hb0
  have H1 := Lib.hid h1
  have H2 := Lib.hid h2
  clear hb0 h1 h2
  go_enter Try.func97, Try.ntmps97
  go_wp2_with fail
  obtain ⟨W, hW⟩ : ∃ W, W = ((w.alloc (.cells cs 81)).alloc (.cells cs 81)) := ⟨_, rfl⟩
  rw [← hW] at HB0 H1 H2 ⊢
  replace hW := Lib.hid hW
  go_loopw [5] (fun i wr => ∃ k : Nat, k ≤ 64 ∧ i = .int .i64 k ∧ Below W.heap.size W wr) (fun i _ => 64 - (intOf i).toNat)
  case atStart => exact ⟨0, Nat.zero_le _, rfl, Below.refl _ _⟩
  case round =>
    obtain ⟨k, hk, rfl, hb⟩ := hrel
    by_cases hlt : k < 64
    · have c1 := ((H1.out.below hb H1.out.lt).cell k).trans (HC.out k hlt)
      have c2 := ((H2.out.below hb H2.out.lt).cell k).trans (HC.out k hlt)
      generalize px.getD k 0 = x at c1 c2
      have q0 : (0 : Int) ≤ (k : Int) := by omega
      have q1 : (k : Int) < 64 := by omega
      have HB := Lib.hid hb
      clear hb
      go_wp2_with fail
      go_quiet (fail)
      go_wp2_with fail
      go_roundw
      case rel => exact ⟨k + 1, by omega, by go_num, below_drewN HB.out _⟩
      case measure => simp [intOf]; omega
    · obtain rfl : k = 64 := by omega
      have q1 : ¬ ((64 : Nat) : Int) < 64 := by omega
      have HB := Lib.hid hb
      clear hb
      go_wp2_with fail
      go_ret
      exact ⟨rfl, below_step HB0.out HB.out HB0.out.size⟩
set_option maxRecDepth 20000 in
set_option maxHeartbeats 2000000 in
theorem eqTile_same (px : List Int) (hp : px.length = 64) (w : World) :
    Calls Try.prog 86 #[.agg (iv px).toArray, .agg (iv px).toArray] w fun e w' => e = .returned (.bool true) ∧ Below w.heap.size w w' := by
  have h1 := (Blk.new w 83 (iv px).toArray).alloc (.cells (iv px).toArray 83)
  have h2 := Blk.new (w.alloc (.cells (iv px).toArray 83)) 83 (iv px).toArray
  rw [show (w.alloc (.cells (iv px).toArray 83)).heap.size = w.heap.size + 1 by simp] at h2
  have HR1 := Lib.hid (show ((w.alloc (.cells (iv px).toArray 83)).alloc (.cells (iv px).toArray 83)).rangeAt w.heap.size 0 (iv px) from fun j v hj => by rw [Nat.zero_add, h1.cell]; simpa using hj)
  have HR2 := Lib.hid (show ((w.alloc (.cells (iv px).toArray 83)).alloc (.cells (iv px).toArray 83)).rangeAt (w.heap.size + 1) 0 (iv px) from fun j v hj => by rw [Nat.zero_add, h2.cell]; simpa using hj)
  have hb0 : Below w.heap.size w ((w.alloc (.cells (iv px).toArray 83)).alloc (.cells (iv px).toArray 83)) := ((Below.refl _ _).alloc (Nat.le_refl _) _).alloc (by simp) _
  have HB0 := Lib.hid hb0
  have HP := Lib.hid hp
  clear hb0 hp h1 h2
  obtain ⟨cs, hcs⟩ : ∃ cs, cs = (iv px).toArray := ⟨_, rfl⟩
  rw [← hcs] at HR1 HR2 HB0 ⊢
  replace hcs := Lib.hid hcs
  go_enter Try.func86, Try.ntmps86
  go_wp2_with (first | (refine at_load (ty := 81) rfl ?_; first | (refine wpList_load_mid rfl 81 _ rfl w.heap.size 0 rfl (iv px) _ HR1.out Try.underlying81 rfl (arr_size HP.out) ?_) | (refine wpList_load_mid rfl 81 _ rfl (w.heap.size + 1) 0 rfl (iv px) _ HR2.out Try.underlying81 rfl (arr_size HP.out) ?_)) | (go_at_call 97; refine (eqIntA64_same px HP.out _).mono ?_; rintro e w5 ⟨rfl, b5⟩; have hb5 := Lib.hid (below_step HB0.out b5 HB0.out.size); clear b5))
  go_ret
  exact ⟨rfl, hb5.out⟩
set_option maxRecDepth 20000 in
set_option maxHeartbeats 2000000 in
theorem eqTileS_same (A A' : Option Addr) (n c c' : Nat) (ts : List (List Int)) (w : World) (h : TiRd w w.heap.size A n ts) (h' : TiRd w w.heap.size A' n ts) (hn : n ≤ 100000000) :
    Calls Try.prog 63 #[.slice A n c, .slice A' n c'] w fun e w' => e = .returned (.bool true) ∧ Below w.heap.size w w' := by
  have H := Lib.hid h
  have H' := Lib.hid h'
  clear h h'
  go_enter Try.func63, Try.ntmps63
  go_wp2_with fail
  go_loopw [5] (fun i wr => ∃ k : Nat, k ≤ n ∧ i = .int .i64 k ∧ Below w.heap.size w wr) (fun i _ => n - (intOf i).toNat)
  case atStart => exact ⟨0, Nat.zero_le _, rfl, Below.refl _ _⟩
  case round =>
    obtain ⟨k, hk, rfl, hb⟩ := hrel
    by_cases hlt : k < n
    · obtain ⟨b1, o1, rfl, l1, r1⟩ := (H.out.below hb).spot hlt
      obtain ⟨b2, o2, rfl, l2, r2⟩ := (H'.out.below hb).spot hlt
      have hpl := H.out.len hlt
      generalize ts.getD k [] = s at r1 r2 hpl
      obtain ⟨ι, hne, G, hall2, hsur⟩ := fam_of wr
      have R1 := Lib.hid (show ∀ i, (G i).rangeAt b1 (o1 + k * 64) (iv s) from fun i j v hj => ((hall2 i).cell (Nat.lt_of_lt_of_le l1 hb.size)).trans (r1 j v hj))
      have R2 := Lib.hid (show ∀ i, (G i).rangeAt b2 (o2 + k * 64) (iv s) from fun i j v hj => ((hall2 i).cell (Nat.lt_of_lt_of_le l2 hb.size)).trans (r2 j v hj))
      have q0 : (0 : Int) ≤ (k : Int) := by omega
      have q1 : (k : Int) < (n : Int) := by omega
      have HBL := Lib.hid hb
      have H2 := Lib.hid hall2
      have HPL := Lib.hid hpl
      clear hb r1 r2 hpl
      go_wp2_with fail
      refine wp_region_fam G (by kernel_rfl) (by kernel_rfl) (hsur _ (Below.refl _ _).drew) ?_
      repeat (first | (refine at_loadQ (ty := 83) rfl ?_; (first | refine wpQuiet_load rfl 83 _ rfl b1 (o1 + k * 64) rfl (iv s) _ R1.out Try.underlying83 rfl (tile_size HPL.out) ?_ | refine wpQuiet_load rfl 83 _ rfl b2 (o2 + k * 64) rfl (iv s) _ R2.out Try.underlying83 rfl (tile_size HPL.out) ?_); simp only [Act.put, List.setIfInBounds_toArray, List.set_cons_succ, List.set_cons_zero]) | go_big_quiet_step ((go_at_call 86; exact fam_call hall2 hsur _ (eqTile_same s HPL.out _) rfl)))
      refine wpQuiet_nil ?_
      rintro _ ⟨nq, rfl⟩
      go_wp2_with fail
      go_roundw
      case rel => exact ⟨k + 1, by omega, by go_num, below_step HBL.out (H2.out nq) HBL.out.size⟩
      case measure => simp [intOf]; omega
    · obtain rfl : k = n := by omega
      replace hb := Lib.hid hb
      go_wp2_with fail
      go_ret
      exact ⟨rfl, hb.out⟩
theorem szTileS_any (A : Option Addr) (n c : Nat) (left : Int) (w : World) (h0 : 0 ≤ left) (h1 : left ≤ 1048576) (hn : n ≤ 9223372036854775807) :
    Calls Try.prog 59 #[.slice A n c, .int .i64 left] w fun e w' => e = .returned (.int .i64 (if left - n < 0 then -1 else left - n)) ∧ w = w' := by
  have hw : IntKind.i64.wrap (left - n) = left - n := IntWalk.i64_in _ (by omega)
  by_cases hlt : left - (n : Int) < 0
  · rw [if_pos hlt]
    go_enter Try.func59, Try.ntmps59
    go_wp2
    go_ret
    exact ⟨rfl, rfl⟩
  · rw [if_neg hlt]
    go_enter Try.func59, Try.ntmps59
    go_wp2
    go_ret
    exact ⟨rfl, rfl⟩
end Go.Proofs.Ytkcabllnlbcgdaa
