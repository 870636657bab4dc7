/-
  RecordFrames in both packages: its plain words and contracts. No condition but that lengths stay in range.
-/
import Derived.Test.YtmdebahhlgfboaaTupHold
import Derived.Test.YtmdebahhlgfboaaBytes
import Derived.Deep.QuietTactic
import Derived.BigQuiet
namespace Go.Proofs.Ytmdebahhlgfboaa
open Go.RowKit
set_option linter.unusedVariables false
set_option linter.unusedSimpArgs false
def lastH (o : List THold) : THold := o.getD (o.length - 1) (0, 0)
def recStep (o : List THold) (b : Int) : List THold := if 0 < o.length ∧ (lastH o).1 = b then o.set (o.length - 1) (b, (lastH o).2 + 1) else o ++ [(b, 1)]
def recF (xs : List Int) : List THold := xs.foldl recStep []
theorem recF_snoc (xs : List Int) (b : Int) : recF (xs ++ [b]) = recStep (recF xs) b := by simp [recF]
theorem recF_succ {xs : List Int} {k : Nat} (hk : k < xs.length) : recF (xs.take (k + 1)) = recStep (recF (xs.take k)) (xs.getD k 0) := by
  rw [List.take_add_one, List.getElem?_eq_getElem hk, List.getD_eq_getElem?_getD, List.getElem?_eq_getElem hk]
  exact recF_snoc _ _
theorem last_app (o : List THold) (t : THold) : lastH (o ++ [t]) = t := by simp [lastH]
theorem last_set (o : List THold) (t : THold) (h : 0 < o.length) : lastH (o.set (o.length - 1) t) = t := by
  unfold lastH
  rw [List.length_set, List.getD_eq_getElem?_getD, List.getElem?_set_self (by omega)]
  rfl
theorem recStep_last (o : List THold) (b : Int) : 0 < (recStep o b).length ∧ (lastH (recStep o b)).1 = b := by
  unfold recStep
  split
  · rename_i h
    exact ⟨by rw [List.length_set]; exact h.1, by rw [last_set _ _ h.1]⟩
  · exact ⟨by simp, by rw [last_app]⟩
theorem recStep_len (o : List THold) (b : Int) : (recStep o b).length ≤ o.length + 1 := by
  unfold recStep; split <;> simp
theorem recStep_bd {o : List THold} {b : Int} {m : Int} (h : ∀ t ∈ o, 1 ≤ t.2 ∧ t.2 ≤ m) (h0 : 0 ≤ m) : ∀ t ∈ recStep o b, 1 ≤ t.2 ∧ t.2 ≤ m + 1 := by
  intro t ht
  unfold recStep at ht
  split at ht
  · rename_i hc
    rcases List.mem_or_eq_of_mem_set ht with ht | rfl
    · have := h t ht; omega
    · have hm : lastH o ∈ o := by
        unfold lastH
        rw [List.getD_eq_getElem?_getD, List.getElem?_eq_getElem (show o.length - 1 < o.length by omega)]
        exact List.getElem_mem _
      have := h _ hm
      simp only
      omega
  · rcases List.mem_append.1 ht with ht | ht
    · have := h t ht; omega
    · simp at ht; subst ht; simp only; omega
theorem rec_inv {xs : List Int} : ∀ k, k ≤ xs.length → (recF (xs.take k)).length ≤ k ∧ (∀ t ∈ recF (xs.take k), 1 ≤ t.2 ∧ t.2 ≤ (k : Int)) ∧ (0 < k → 0 < (recF (xs.take k)).length ∧ (lastH (recF (xs.take k))).1 = xs.getD (k - 1) 0)
  | 0, _ => by simp [recF]
  | k + 1, h => by
    obtain ⟨a, b, c⟩ := rec_inv (xs := xs) k (by omega)
    rw [recF_succ (by omega)]
    have := recStep_len (recF (xs.take k)) (xs.getD k 0)
    refine ⟨by omega, fun t ht => ?_, fun _ => ?_⟩
    · have := recStep_bd b (by omega) t ht
      omega
    · exact recStep_last _ _
theorem last_mem {o : List THold} (h : 0 < o.length) : lastH o ∈ o := by
  unfold lastH
  rw [List.getD_eq_getElem?_getD, List.getElem?_eq_getElem (show o.length - 1 < o.length by omega)]
  exact List.getElem_mem _
def recR (xs : List Int) : List THold := if decide (xs.length ≤ 300) && allB xs then recF xs else []
theorem recR_len (xs : List Int) : (recR xs).length ≤ 300 := by
  unfold recR
  split
  · rename_i h
    simp only [Bool.and_eq_true, decide_eq_true_eq] at h
    have := (rec_inv (xs := xs) xs.length (Nat.le_refl _)).1
    rw [List.take_length] at this
    omega
  · simp
theorem flHold_set1 : ∀ (ts : List THold) (k : Nat) (y : Int), k < ts.length → (iv (flHold ts)).set (k * 2 + 1) (.int .i64 y) = iv (flHold (ts.set k ((ts.getD k (0, 0)).1, y)))
  | [], k, y, h => by simp at h
  | t :: ts, 0, y, h => by simp [flHold, iv]
  | t :: ts, k + 1, y, h => by
    have ih := flHold_set1 ts k y (by simpa using h)
    rw [show (k + 1) * 2 + 1 = k * 2 + 1 + 1 + 1 by omega]
    simp only [flHold, iv, List.map_cons, List.set_cons_succ, List.getD_cons_succ] at ih ⊢
    rw [ih]
/-- The last part's frames grow by one. -/
theorem hold_last {w : World} {A : Option Addr} {c base E : Nat} {o : List THold} (h : w.ownsRow base E 2 (.slice A o.length c) o.length (iv (flHold o))) (h0 : 0 < o.length) :
    ∃ g, A = some ⟨g, 0, none⟩ ∧ base ≤ g ∧ g < w.heap.size ∧ w.cell? ⟨g, (o.length - 1) * 2, none⟩ = some (.int .i64 (lastH o).1) ∧ w.cell? ⟨g, (o.length - 1) * 2 + 1, none⟩ = some (.int .i64 (lastH o).2) ∧ w.frozen? ⟨g, (o.length - 1) * 2 + 1, none⟩ = false ∧
      ∀ y, (w.setCell ⟨g, (o.length - 1) * 2 + 1, none⟩ (.int .i64 y)).ownsRow base E 2 (.slice A o.length c) o.length (iv (flHold (o.set (o.length - 1) ((lastH o).1, y)))) ∧ w.grownBy (w.setCell ⟨g, (o.length - 1) * 2 + 1, none⟩ (.int .i64 y)) (some g) := by
  obtain ⟨g, cp, ev, g0, g1⟩ := h.form (by omega)
  injection ev with ev _ ec
  subst ev ec
  obtain ⟨⟨c0, c1⟩, ⟨_, f1⟩, -⟩ := hold_store h (show o.length - 1 < o.length by omega)
  refine ⟨g, rfl, g0, g1, c0, c1, f1, fun y => ?_⟩
  obtain ⟨a, b⟩ := h.stored ((o.length - 1) * 2 + 1) (.int .i64 y)
  rw [flHold_set1 o (o.length - 1) y (by omega)] at a
  exact ⟨a, b⟩
/-- What a call that makes a list of parts gives. -/
def GivesH (w : World) (o : List THold) (e : Ending) (w' : World) : Prop := ∃ A c, e = .returned (.slice A o.length c) ∧ w'.ownsRow w.heap.size 42 2 (.slice A o.length c) o.length (iv (flHold o)) ∧ Below w.heap.size w w'
set_option maxHeartbeats 2000000 in
theorem recordFrames_impl (A : Option Addr) (n c : Nat) (xs : List Int) (w : World) (h : Ints w w.heap.size A n xs) (hn : n ≤ 1000000000) :
    Calls Try.prog 26 #[.slice A n c] w (GivesH w (recR xs)) := by
  have hl := h.len
  have H := Lib.hid h
  clear h
  by_cases h3 : 300 < n
  · rw [show recR xs = [] by unfold recR; rw [if_neg (by simp; omega)]]
    go_enter Try.func26, Try.ntmps26
    go_wp2_with fail
    go_ret
    exact ⟨none, 0, rfl, World.ownsRow_nil _ _ _ _, Below.refl _ _⟩
  cases hB : allB xs
  · rw [show recR xs = [] by unfold recR; rw [if_neg (by simp [hB])]]
    go_enter Try.func26, Try.ntmps26
    go_wp2_with (go_at_call 50; refine (allBytes_any _ _ _ xs _ H.out hn).mono ?_; rintro e w' ⟨rfl, rfl⟩; rw [hB])
    go_ret
    exact ⟨none, 0, rfl, World.ownsRow_nil _ _ _ _, Below.refl _ _⟩
  rw [show recR xs = recF xs by unfold recR; rw [if_pos (by simp [hB]; omega)]]
  have hB' := Lib.hid hB
  clear hB
  go_enter Try.func26, Try.ntmps26
  go_wp2_with (go_at_call 50; refine (allBytes_any _ _ _ xs _ H.out hn).mono ?_; rintro e w' ⟨rfl, rfl⟩; rw [hB'.out])
  go_loopw [3, 17] (fun out i wr => ∃ (k : Nat) (A' : Option Addr) (c' : Nat), k ≤ n ∧ i = .int .i64 k ∧ out = .slice A' (recF (xs.take k)).length c' ∧ wr.ownsRow w.heap.size 42 2 (.slice A' (recF (xs.take k)).length c') (recF (xs.take k)).length (iv (flHold (recF (xs.take k)))) ∧ Below w.heap.size w wr) (fun _ i _ => n - (intOf i).toNat)
  case atStart => exact ⟨0, none, 0, Nat.zero_le _, rfl, rfl, World.ownsRow_nil _ _ _ _, Below.refl _ _⟩
  case round =>
    obtain ⟨k, A', c', hk, rfl, rfl, hown, hb⟩ := hrel
    by_cases hlt : k < n
    · obtain ⟨bx, ox, e1, _, hx⟩ := (H.out.below hb).spot hlt
      have hstp := recF_succ (xs := xs) (k := k) (by omega)
      obtain ⟨v1, v2, v3⟩ := rec_inv (xs := xs) k (by omega)
      obtain ⟨o, ho⟩ : ∃ o, o = recF (xs.take k) := ⟨_, rfl⟩
      rw [← ho] at hown v1 v2 v3 ⊢
      have HO := Lib.hid hown
      have HB := Lib.hid hb
      have HOE := Lib.hid ho
      have hsz := hb.size
      clear hown hb ho
      rw [← HOE.out] at hstp
      obtain ⟨x, hxe⟩ : ∃ x, x = xs.getD k 0 := ⟨_, rfl⟩
      rw [← hxe] at hx hstp
      clear hxe v3
      have q0 : (0 : Int) ≤ (k : Int) := by omega
      have q1 : (k : Int) < (n : Int) := by omega
      have q2 : ((recF (xs.take (k + 1))).length : Int) = ((recF (xs.take (k + 1))).length : Int) := rfl
      clear q2
      subst e1
      by_cases h0 : 0 < o.length
      · obtain ⟨g, hA, g0, g1, c0, c1, f1, hst⟩ := hold_last HO.out h0
        have hbd := v2 _ (last_mem h0)
        obtain ⟨b2, b3⟩ := hbd
        have w1 : IntKind.i64.wrap ((o.length : Int) - 1) = ((o.length - 1 : Nat) : Int) := by rw [IntWalk.i64_in _ (by omega)]; omega
        have w2 : (o.length : Int) - 1 = ((o.length - 1 : Nat) : Int) := by omega
        have w3 : ((o.length - 1 : Nat) : Int) < (o.length : Int) := by omega
        have w4 : (0 : Int) ≤ ((o.length - 1 : Nat) : Int) := by omega
        have hl0 : (o.length : Int) > 0 := by omega
        by_cases he : (lastH o).1 = x
        · have hs : recStep o x = o.set (o.length - 1) ((lastH o).1, (lastH o).2 + 1) := by unfold recStep; rw [if_pos ⟨h0, he⟩, he]
          rw [hs] at hstp
          have hstep := Lib.hid hstp
          have he2 : ((lastH o).1 == x) = true := by simpa using he
          replace hst := Lib.hid hst
          clear hs hstp he h0
          subst hA
          generalize (lastH o).1 = z1 at c0 he2 hst hstep
          go_wp2_with fail
          go_roundw
          case rel =>
            obtain ⟨s1, s2⟩ := hst.out ((lastH o).2 + 1)
            exact ⟨k + 1, some ⟨g, 0, none⟩, c', by omega, by go_num, by rw [hstep.out, List.length_set], by rw [hstep.out, List.length_set]; exact s1, HB.out.grown s2 hsz (by intro q hq; injection hq with hq; omega)⟩
          case measure => simp [intOf]; omega
        · have hs : recStep o x = o ++ [(x, 1)] := by unfold recStep; rw [if_neg (fun h => he h.2)]
          rw [hs] at hstp
          have hstep := Lib.hid hstp
          have he2 : ((lastH o).1 == x) = false := by simpa using he
          clear hs hstp he hst h0
          subst hA
          go_wp2_with (at_builtin; refine push_hold _ rfl _ _ rfl w.heap.size o.length c' 1 1 _ (some ⟨g, 0, none⟩) (some ⟨(wr).heap.size, 0, none⟩) (flHold o) (flHold [(x, 1)]) rfl rfl (HO.out.alloc _) (hold_lit [(x, 1)] _ rfl (by simp)) (by intro h; cases h) (by omega) (Nat.le_trans hsz (size_alloc_le _ _)) ?_; intro A3 c3 w3 o3 g3; rw [← flHold_app] at o3; replace o3 := Lib.hid o3; have g3 := Lib.hid g3)
          go_roundw
          case rel => exact ⟨k + 1, A3, c3, by omega, by go_num, by rw [hstep.out, List.length_append]; rfl, by rw [hstep.out, List.length_append]; exact o3.out, (HB.out.alloc hsz _).grown g3.out (Nat.le_trans hsz (size_alloc_le _ _)) (fun q hq => (HO.out.lt q hq).1)⟩
          case measure => simp [intOf]; omega
      · have hs : recStep o x = o ++ [(x, 1)] := by unfold recStep; rw [if_neg (fun h => h0 h.1)]
        rw [hs] at hstp
        have hstep := Lib.hid hstp
        have hl0 : ¬ (o.length : Int) > 0 := by omega
        clear hs hstp h0
        go_wp2_with (at_builtin; refine push_hold _ rfl _ _ rfl w.heap.size o.length c' 1 1 _ A' (some ⟨(wr).heap.size, 0, none⟩) (flHold o) (flHold [(x, 1)]) rfl rfl (HO.out.alloc _) (hold_lit [(x, 1)] _ rfl (by simp)) (by intro h; cases h) (by omega) (Nat.le_trans hsz (size_alloc_le _ _)) ?_; intro A3 c3 w3 o3 g3; rw [← flHold_app] at o3; replace o3 := Lib.hid o3; have g3 := Lib.hid g3)
        go_roundw
        case rel => exact ⟨k + 1, A3, c3, by omega, by go_num, by rw [hstep.out, List.length_append]; rfl, by rw [hstep.out, List.length_append]; exact o3.out, (HB.out.alloc hsz _).grown g3.out (Nat.le_trans hsz (size_alloc_le _ _)) (fun q hq => (HO.out.lt q hq).1)⟩
        case measure => simp [intOf]; omega
    · obtain rfl : k = n := by omega
      rw [List.take_of_length_le (by omega)] at hown
      go_wp2
      go_ret
      exact ⟨A', c', by first | rfl | (rw [List.take_of_length_le (by omega)]; rfl), hown, hb⟩
set_option maxHeartbeats 4000000 in
theorem recordFrames_spec (A : Option Addr) (n c : Nat) (xs : List Int) (w : World) (h : Ints w w.heap.size A n xs) (hn : n ≤ 1000000000) :
    Calls Try.prog 24 #[.slice A n c] w (GivesH w (recR xs)) := by
  have hl := h.len
  have H := Lib.hid h
  have hown0 : (w.alloc (.cells #[] 42)).ownsRow w.heap.size 42 2 (.slice (some ⟨w.heap.size, 0, none⟩) 0 0) 0 (iv (flHold [])) := World.ownsRow_lit w #[] 0 (Nat.le_refl _) (by simp [maxLen]) rfl
  have HO0 := Lib.hid hown0
  have hb0 : Below w.heap.size w (w.alloc (.cells #[] 42)) := (Below.refl _ _).alloc (Nat.le_refl _) _
  have HB0 := Lib.hid hb0
  have H1 := Lib.hid (show Ints (w.alloc (.cells #[] 42)) (w.alloc (.cells #[] 42)).heap.size A n xs from (h.below hb0).more hb0.size)
  clear h hown0 hb0
  by_cases h3 : 300 < n
  · rw [show recR xs = [] by unfold recR; rw [if_neg (by simp; omega)]]
    go_enter Try.func24, Try.ntmps24
    go_wp2_with fail
    go_ret
    exact ⟨_, _, rfl, HO0.out, HB0.out⟩
  cases hB : allB xs
  · rw [show recR xs = [] by unfold recR; rw [if_neg (by simp [hB])]]
    go_enter Try.func24, Try.ntmps24
    go_wp2_with (go_at_call 49; refine (l2Bytes_any _ _ _ xs _ H1.out hn).mono ?_; rintro e w' ⟨rfl, rfl⟩; rw [hB])
    go_ret
    exact ⟨_, _, rfl, HO0.out, HB0.out⟩
  rw [show recR xs = recF xs by unfold recR; rw [if_pos (by simp [hB]; omega)]]
  have hB' := Lib.hid hB
  clear hB
  go_enter Try.func24, Try.ntmps24
  go_wp2_with (go_at_call 49; refine (l2Bytes_any _ _ _ xs _ H1.out hn).mono ?_; rintro e w' ⟨rfl, rfl⟩; rw [hB'.out])
  go_loopw [3, 4] (fun out i wr => ∃ (k : Nat) (A' : Option Addr) (c' : Nat), k ≤ n ∧ i = .int .i64 k ∧ out = .slice A' (recF (xs.take k)).length c' ∧ wr.ownsRow w.heap.size 42 2 (.slice A' (recF (xs.take k)).length c') (recF (xs.take k)).length (iv (flHold (recF (xs.take k)))) ∧ Below w.heap.size w wr) (fun _ i _ => n - (intOf i).toNat)
  case atStart => exact ⟨0, _, _, Nat.zero_le _, rfl, rfl, HO0.out, HB0.out⟩
  case round =>
    obtain ⟨k, A', c', hk, rfl, rfl, hown, hb⟩ := hrel
    by_cases hlt : k < n
    · obtain ⟨bx, ox, e1, _, hx⟩ := (H.out.below hb).spot hlt
      have hpr : 0 < k → wr.cell? ⟨bx, ox + (k - 1), none⟩ = some (.int .i64 (xs.getD (k - 1) 0)) := by
        intro h0
        obtain ⟨b', o', e', _, h'⟩ := (H.out.below hb).spot (show k - 1 < n by omega)
        rw [e1] at e'
        injection e' with e'
        injection e' with e2 e3
        subst e2 e3
        exact h'
      have hstp := recF_succ (xs := xs) (k := k) (by omega)
      obtain ⟨v1, v2, v3⟩ := rec_inv (xs := xs) k (by omega)
      obtain ⟨o, ho⟩ : ∃ o, o = recF (xs.take k) := ⟨_, rfl⟩
      rw [← ho] at hown v1 v2 v3 ⊢
      have HO := Lib.hid hown
      have HB := Lib.hid hb
      have HOE := Lib.hid ho
      have hsz := hb.size
      clear hown hb ho
      rw [← HOE.out] at hstp
      obtain ⟨x, hxe⟩ : ∃ x, x = xs.getD k 0 := ⟨_, rfl⟩
      rw [← hxe] at hx hstp
      clear hxe
      have q0 : (0 : Int) ≤ (k : Int) := by omega
      have q1 : (k : Int) < (n : Int) := by omega
      subst e1
      by_cases hk0 : 0 < k
      · obtain ⟨h0, h0e⟩ := v3 hk0
        have hc := hpr hk0
        rw [← h0e] at hc
        have g1 : decide ((k : Int) > 0) = true := decide_eq_true (by omega)
        have u1 : IntKind.i64.wrap ((k : Int) - 1) = ((k - 1 : Nat) : Int) := by rw [IntWalk.i64_in _ (by omega)]; omega
        have u2 : (k : Int) - 1 = ((k - 1 : Nat) : Int) := by omega
        have u3 : ((k - 1 : Nat) : Int) < (n : Int) := by omega
        clear hpr v3 h0e
        by_cases he : (lastH o).1 = x
        · have hs : recStep o x = o.set (o.length - 1) ((lastH o).1, (lastH o).2 + 1) := by unfold recStep; rw [if_pos ⟨h0, he⟩, he]
          rw [hs] at hstp
          have hstep := Lib.hid hstp
          have he2 : (x == (lastH o).1) = true := by simp [he]
          clear hs hstp he
          generalize hz1 : (lastH o).1 = z1 at he2 hstep hc
          replace hz1 := Lib.hid hz1
          go_wp2_with fail
          go_quiet (fail)
          obtain ⟨W, hW⟩ : ∃ W, W = wr.drewN nq := ⟨_, rfl⟩
          rw [← hW]
          replace HO := Lib.hid (show W.ownsRow w.heap.size 42 2 (.slice A' o.length c') o.length (iv (flHold o)) by rw [hW]; exact own_drewN HO.out nq)
          replace HB := Lib.hid (show Below w.heap.size w W by rw [hW]; exact below_drewN HB.out nq)
          replace hx : W.cell? ⟨bx, ox + k, none⟩ = some (.int .i64 x) := by rw [hW]; exact hx
          clear hsz
          have hsz := HB.out.size
          replace hW := Lib.hid hW
          clear hc
          obtain ⟨g, hA, g0, g1, c0, c1, f1, hst⟩ := hold_last HO.out h0
          have hbd := v2 _ (last_mem h0)
          obtain ⟨b2, b3⟩ := hbd
          have w1 : IntKind.i64.wrap ((o.length : Int) - 1) = ((o.length - 1 : Nat) : Int) := by rw [IntWalk.i64_in _ (by omega)]; omega
          have w2 : (o.length : Int) - 1 = ((o.length - 1 : Nat) : Int) := by omega
          have w3 : ((o.length - 1 : Nat) : Int) < (o.length : Int) := by omega
          have w4 : (0 : Int) ≤ ((o.length - 1 : Nat) : Int) := by omega
          have hl0 : (o.length : Int) > 0 := by omega
          rw [hz1.out] at c0 hst
          replace hst := Lib.hid hst
          clear h0
          subst hA
          go_wp2_with fail
          go_roundw
          case rel =>
            obtain ⟨s1, s2⟩ := hst.out ((lastH o).2 + 1)
            exact ⟨k + 1, some ⟨g, 0, none⟩, c', by omega, by go_num, by rw [hstep.out, List.length_set], by rw [hstep.out, List.length_set]; exact s1, HB.out.grown s2 hsz (by intro q hq; injection hq with hq; omega)⟩
          case measure => simp [intOf]; omega
        · have hs : recStep o x = o ++ [(x, 1)] := by unfold recStep; rw [if_neg (fun h => he h.2)]
          rw [hs] at hstp
          have hstep := Lib.hid hstp
          have he2 : (x == (lastH o).1) = false := by simp; exact fun h => he h.symm
          clear hs hstp he h0
          go_wp2_with fail
          go_quiet (fail)
          obtain ⟨W, hW⟩ : ∃ W, W = wr.drewN nq := ⟨_, rfl⟩
          rw [← hW]
          replace HO := Lib.hid (show W.ownsRow w.heap.size 42 2 (.slice A' o.length c') o.length (iv (flHold o)) by rw [hW]; exact own_drewN HO.out nq)
          replace HB := Lib.hid (show Below w.heap.size w W by rw [hW]; exact below_drewN HB.out nq)
          replace hx : W.cell? ⟨bx, ox + k, none⟩ = some (.int .i64 x) := by rw [hW]; exact hx
          clear hsz
          have hsz := HB.out.size
          replace hW := Lib.hid hW
          go_wp2_with (at_builtin; refine push_hold _ rfl _ _ rfl w.heap.size o.length c' 1 1 _ A' (some ⟨(W).heap.size, 0, none⟩) (flHold o) (flHold [(x, 1)]) rfl rfl (HO.out.alloc _) (hold_lit [(x, 1)] _ rfl (by simp)) (by intro h; cases h) (by omega) (Nat.le_trans hsz (size_alloc_le _ _)) ?_; intro A3 c3 w3 o3 g3; rw [← flHold_app] at o3; replace o3 := Lib.hid o3; have g3 := Lib.hid g3)
          go_roundw
          case rel => exact ⟨k + 1, A3, c3, by omega, by go_num, by rw [hstep.out, List.length_append]; rfl, by rw [hstep.out, List.length_append]; exact o3.out, (HB.out.alloc hsz _).grown g3.out (Nat.le_trans hsz (size_alloc_le _ _)) (fun q hq => (HO.out.lt q hq).1)⟩
          case measure => simp [intOf]; omega
      · have g1 : decide ((k : Int) > 0) = false := decide_eq_false (by omega)
        have hs : recStep o x = o ++ [(x, 1)] := by unfold recStep; rw [if_neg (fun h => by have := h.1; omega)]
        rw [hs] at hstp
        have hstep := Lib.hid hstp
        clear hs hstp hpr v3
        go_wp2_with fail
        go_quiet (fail)
        obtain ⟨W, hW⟩ : ∃ W, W = wr.drewN nq := ⟨_, rfl⟩
        rw [← hW]
        replace HO := Lib.hid (show W.ownsRow w.heap.size 42 2 (.slice A' o.length c') o.length (iv (flHold o)) by rw [hW]; exact own_drewN HO.out nq)
        replace HB := Lib.hid (show Below w.heap.size w W by rw [hW]; exact below_drewN HB.out nq)
        replace hx : W.cell? ⟨bx, ox + k, none⟩ = some (.int .i64 x) := by rw [hW]; exact hx
        clear hsz
        have hsz := HB.out.size
        replace hW := Lib.hid hW
        go_wp2_with (at_builtin; refine push_hold _ rfl _ _ rfl w.heap.size o.length c' 1 1 _ A' (some ⟨(W).heap.size, 0, none⟩) (flHold o) (flHold [(x, 1)]) rfl rfl (HO.out.alloc _) (hold_lit [(x, 1)] _ rfl (by simp)) (by intro h; cases h) (by omega) (Nat.le_trans hsz (size_alloc_le _ _)) ?_; intro A3 c3 w3 o3 g3; rw [← flHold_app] at o3; replace o3 := Lib.hid o3; have g3 := Lib.hid g3)
        go_roundw
        case rel => exact ⟨k + 1, A3, c3, by omega, by go_num, by rw [hstep.out, List.length_append]; rfl, by rw [hstep.out, List.length_append]; exact o3.out, (HB.out.alloc hsz _).grown g3.out (Nat.le_trans hsz (size_alloc_le _ _)) (fun q hq => (HO.out.lt q hq).1)⟩
        case measure => simp [intOf]; omega
    · obtain rfl : k = n := by omega
      rw [List.take_of_length_le (by omega)] at hown
      go_wp2
      go_ret
      exact ⟨A', c', by first | rfl | (rw [List.take_of_length_le (by omega)]; rfl), hown, hb⟩
end Go.Proofs.Ytmdebahhlgfboaa
