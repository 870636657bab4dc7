/-
  KeepState of both packages. No condition but that lengths stay in range.
-/
import Derived.Test.YtmdebahhlgfboaaKee
namespace Go.Proofs.Ytmdebahhlgfboaa
open Go.RowKit
set_option linter.unusedVariables false
set_option linter.unusedSimpArgs false
attribute [local go_sem ↓] Go.wp_at_zero Go.wp_at_succ
theorem getD_dropR {α : Type _} (xs : List α) (k i : Nat) (d : α) : (xs.drop k).getD i d = xs.getD (k + i) d := by simp [List.getD_eq_getElem?_getD]
theorem GOwn.dropped {w w' : World} {base hi c c' b0 k : Nat} {A A' : Option Addr} {os : List (List Int)} {vs : List Value} (h : GOwn w base hi A c os vs) (hb : Below w.heap.size w w') (hk : k ≤ os.length)
    (o : w'.ownsRow b0 29 1 (.slice A' (os.length - k) c') (os.length - k) (vs.drop k)) (hbase : base ≤ b0) (hhi : hi ≤ w'.heap.size) : GOwn w' base w'.heap.size A' c' (os.drop k) (vs.drop k) := by
  have hl : (os.drop k).length = os.length - k := by simp
  refine ⟨by rw [hl]; exact own_base o hbase, by simp [h.vlen], fun i hi' => ?_, fun g hg => ?_, fun i hi' g hg => ?_, fun i j hij hj g g' e1 e2 => ?_⟩
  · rw [hl] at hi'
    rw [getD_dropR, getD_dropR]
    exact own_below (h.inner (k + i) (by omega)) hb
  · rw [hl] at hg; exact (o.lt g hg).2
  · rw [hl] at hi'
    rw [getD_dropR] at hg
    exact Nat.lt_of_lt_of_le (h.ilt (k + i) (by omega) g hg) hhi
  · rw [hl] at hj
    rw [getD_dropR] at e1 e2
    exact h.inc (k + i) (k + j) (by omega) (by omega) g g' e1 e2
theorem GOwn.cells {w : World} {base hi c : Nat} {A : Option Addr} {os : List (List Int)} {vs : List Value} (h : GOwn w base hi A c os vs) : ∀ u ∈ vs, u.oneCell' = true := by
  intro u hu
  obtain ⟨i, hi, rfl⟩ := List.mem_iff_getElem.1 hu
  obtain ⟨A', c', e⟩ := own_form (h.inner i (by have := h.vlen; omega))
  rw [List.getD_eq_getElem?_getD, List.getElem?_eq_getElem hi, Option.getD_some] at e
  rw [e]
  rfl
theorem keep_bad {os : List (List Int)} {st : List Int} {sz : Int} (h : (decide (os.length ≤ 16) && (stB st && (inB sz 1 16 && os.all stB))) = false) : keepR os st sz = [] := by
  unfold keepR
  rw [if_neg (by rw [h]; simp)]
theorem all_bad {os : List (List Int)} {k : Nat} (hk : k < os.length) (h : stB (os.getD k []) = false) : os.all stB = false := by
  rw [List.getD_eq_getElem?_getD, List.getElem?_eq_getElem hk, Option.getD_some] at h
  simp only [List.all_eq_false]
  exact ⟨_, List.getElem_mem hk, by rw [h]; simp⟩
theorem all_of {os : List (List Int)} (h : ∀ i, i < os.length → stB (os.getD i []) = true) : os.all stB = true := by
  rw [List.all_eq_true]
  intro x hx
  obtain ⟨i, hi, rfl⟩ := List.mem_iff_getElem.1 hx
  have := h i hi
  rwa [List.getD_eq_getElem?_getD, List.getElem?_eq_getElem hi, Option.getD_some] at this
set_option maxHeartbeats 1000000 in
theorem keepState_impl (A B : Option Addr) (n c m d : Nat) (os : List (List Int)) (st : List Int) (sz : Int) (w : World) (h : GRd w A n os) (hs : Ints w w.heap.size B m st) (hB : B = none → d = 0) (hm : m ≤ 1000000000) (hn : n ≤ 1000000000) (hd : ∀ k, k < n → (os.getD k []).length ≤ 2000000) :
    Calls Try.prog 35 #[.slice A n c, .slice B m d, .int .i64 sz] w (GivesG w (keepR os st sz)) := by
  have hl := h.1
  have hlm := hs.len
  have H := Lib.hid h
  have HS := Lib.hid hs
  have HD := Lib.hid hd
  clear h hs hd
  subst hlm
  by_cases h16 : (n : Int) > 16
  · have sa := trivial
    have hin := trivial
    rw [keep_bad (os := os) (st := st) (sz := sz) (by simp; omega)]
    go_enter Try.func35, Try.ntmps35
    go_wp2_with (first | (go_at_call 58; refine (isState_any _ _ _ st _ HS.out hm).mono ?_; rintro e w' ⟨rfl, rfl⟩; rw [sa]) | (go_at_call 47; refine (within_any _ _ _ _).mono ?_; rintro e w' ⟨rfl, rfl⟩; rw [hin]))
    go_ret
    exact ⟨none, 0, [], rfl, gown_nil _ _ _, Below.refl _ _⟩
  cases sa : stB st
  · have hin := trivial
    rw [keep_bad (os := os) (st := st) (sz := sz) (by rw [sa]; simp)]
    go_enter Try.func35, Try.ntmps35
    go_wp2_with (first | (go_at_call 58; refine (isState_any _ _ _ st _ HS.out hm).mono ?_; rintro e w' ⟨rfl, rfl⟩; rw [sa]) | (go_at_call 47; refine (within_any _ _ _ _).mono ?_; rintro e w' ⟨rfl, rfl⟩; rw [hin]))
    go_ret
    exact ⟨none, 0, [], rfl, gown_nil _ _ _, Below.refl _ _⟩
  cases hin : inB sz 1 16
  · rw [keep_bad (os := os) (st := st) (sz := sz) (by rw [hin]; simp)]
    go_enter Try.func35, Try.ntmps35
    go_wp2_with (first | (go_at_call 58; refine (isState_any _ _ _ st _ HS.out hm).mono ?_; rintro e w' ⟨rfl, rfl⟩; rw [sa]) | (go_at_call 47; refine (within_any _ _ _ _).mono ?_; rintro e w' ⟨rfl, rfl⟩; rw [hin]))
    go_ret
    exact ⟨none, 0, [], rfl, gown_nil _ _ _, Below.refl _ _⟩
  have hz := inB_iff.1 hin
  obtain ⟨z, rfl⟩ := Int.eq_ofNat_of_zero_le (show 0 ≤ sz by omega)
  go_enter Try.func35, Try.ntmps35
  go_wp2_with (first | (go_at_call 58; refine (isState_any _ _ _ st _ HS.out hm).mono ?_; rintro e w' ⟨rfl, rfl⟩; rw [sa]) | (go_at_call 47; refine (within_any _ _ _ _).mono ?_; rintro e w' ⟨rfl, rfl⟩; rw [hin]))
  go_loopw [25] (fun i wr => ∃ k : Nat, k ≤ n ∧ i = .int .i64 k ∧ (∀ i, i < k → stB (os.getD i []) = true) ∧ w = wr) (fun i _ => n - (intOf i).toNat)
  case atStart => exact ⟨0, Nat.zero_le _, rfl, fun i hi => by omega, rfl⟩
  case round =>
    obtain ⟨k, hk, rfl, hall, rfl⟩ := hrel
    by_cases hlt : k < n
    · obtain ⟨b, off, X, cx, e1, hb1, c1, -, -, i1⟩ := H.out.spot hlt
      have hdk := HD.out k hlt
      have q0 : (0 : Int) ≤ (k : Int) := by omega
      have q1 : (k : Int) < (n : Int) := by omega
      have E1 := Lib.hid e1
      have HI := Lib.hid i1
      have HALL := Lib.hid hall
      cases hsb : stB (os.getD k [])
      · have hbad := Lib.hid (keep_bad (os := os) (st := st) (sz := (z : Int)) (by rw [all_bad (by omega) hsb]; simp))
        clear e1 i1 hall
        generalize os.getD k [] = row at c1 HI hdk hsb
        rw [E1.out]
        go_wp2_with (go_at_call 58; refine (isState_any _ _ _ row _ HI.out (by omega)).mono ?_; rintro e w' ⟨rfl, rfl⟩; rw [hsb])
        go_ret
        rw [hbad.out]
        exact ⟨none, 0, [], rfl, gown_nil _ _ _, Below.refl _ _⟩
      · have HSB := Lib.hid (show ∀ i, i < k + 1 → stB (os.getD i []) = true from fun i hi => by rcases Nat.lt_or_ge i k with h | h; exact hall i h; obtain rfl : i = k := (by omega); exact hsb)
        clear e1 i1 hall
        generalize os.getD k [] = row at c1 HI hdk hsb
        rw [E1.out]
        go_wp2_with (go_at_call 58; refine (isState_any _ _ _ row _ HI.out (by omega)).mono ?_; rintro e w' ⟨rfl, rfl⟩; rw [hsb])
        go_roundw
        case rel => exact ⟨k + 1, by omega, by go_num, HSB.out, by first | rfl | trivial⟩
        case measure => simp [intOf]; omega
    · obtain rfl : k = n := by omega
      have hkr := Lib.hid (show keepR os st (z : Int) = (os ++ [st]).drop (k + 1 - z) by unfold keepR; rw [if_pos (by rw [sa, hin, all_of (fun i hi => hall i (by omega))]; simp; omega), hl]; simp)
      clear hall
      rw [hkr.out]
      go_wp2_with fail
      refine (copyRows_any _ _ _ os _ H.out (by omega) HD.out).mono ?_
      rintro e w4 ⟨A4, c4, vs, rfl, o4, b4⟩
      rw [hl]
      have HO4 := Lib.hid o4
      have HB4 := Lib.hid b4
      have hsz4 := b4.size
      have HS4 := Lib.hid (HS.out.step (Nat.le_refl _) b4)
      have HLK := Lib.hid hl
      clear o4 b4 hl hlt hk
      have hz2 : 1 ≤ z ∧ z ≤ 16 := by omega
      by_cases hq : (0 : Int) ≤ (k : Int) + 1 - (z : Int)
      · obtain ⟨q, hqe⟩ : ∃ q, q = k + 1 - z := ⟨_, rfl⟩
        have hqk : q ≤ k := by omega
        replace hqe := Lib.hid hqe
        go_wp2_with (first | (go_at_call 60; refine (clone_any _ _ _ st _ HS4.out hm hB).mono ?_; rintro e w5 ⟨A5, c5, rfl, o5, b5⟩; have O5 := Lib.hid o5; have HO5 := Lib.hid (HO4.out.below b5); have HB5 := Lib.hid (below_step HB4.out b5 hsz4); have hz5 := b5.size; clear o5 b5) | (at_builtin; refine push_row _ rfl _ _ rfl w.heap.size k c4 w5.heap.size 1 A4 A5 st.length c5 vs rfl rfl (by have := HO5.out.outer.alloc (.cells #[.slice A5 st.length c5] 29); rw [HLK.out] at this; exact this) (cell_new _ _ _ 0) (by omega) (by simp; omega) ?_; intro A6 c6 w6 o6 g6; have hsn := Lib.hid (GOwn.snoc (HO5.out.allocP (.cells #[.slice A5 st.length c5] 29)) st (.slice A5 st.length c5) (by rw [HLK.out]; exact o6) (by rw [HLK.out]; exact g6) (own_base (O5.out.alloc _) (by omega)) (fun g hg => (O5.out.lt g hg).1) (by simp; omega)); have hb6 := Lib.hid ((HB5.out.alloc HB5.out.size (.cells #[.slice A5 st.length c5] 29)).grown g6 (Nat.le_trans HB5.out.size (size_alloc_le _ _)) (fun q hq => by have := HO5.out.outer; rw [HLK.out] at this; exact (this.lt q hq).1)); have hc6 := own_cap o6; obtain ⟨gb, cap6, e6, hgb1, hgb2⟩ := o6.form (by omega); injection e6 with e6 _ e7; subst e6 e7; clear o6 g6))
        rw [← hqe.out]
        have hcut := (Reads.of_own hsn.out.outer).cut (k := q) (cap := c6) (by rw [List.length_append, HLK.out]; simp; omega) (by rw [List.length_append, HLK.out]; exact hc6)
        rw [if_neg (by omega), List.length_append, HLK.out, show k + [st].length - q = k + 1 - q from rfl] at hcut
        have hcut2 : Reads w6 w6.heap.size 1 (some ⟨gb, q, none⟩) (k + 1 - q) ((vs ++ [Value.slice A5 st.length c5]).drop q) := by
          rw [Nat.mul_one] at hcut
          rcases Nat.eq_zero_or_pos q with h0 | h0
          · rw [h0] at hcut ⊢
            simpa [Addr.add] using hcut
          · simpa [Addr.add, Nat.ne_of_gt h0] using hcut
        refine (cloneRows_any ⟨gb, q, none⟩ (k + 1 - q) (c6 - q) _ _ hcut2 (fun u hu => hsn.out.cells u (List.mem_of_mem_drop hu)) (by omega)).mono ?_
        rintro e w7 ⟨A7, c7, rfl, o7, b7⟩
        have hdr := Lib.hid (hsn.out.dropped b7 (k := q) (by rw [List.length_append, HLK.out]; simp; omega) (by rw [List.length_append, HLK.out]; exact o7) hb6.out.size b7.size)
        have hb7 := Lib.hid (below_step hb6.out b7 hb6.out.size)
        have hlq := Lib.hid (show k + 1 - q = ((os ++ [st]).drop q).length by rw [List.length_drop, List.length_append, HLK.out]; rfl)
        clear o7 b7 hcut hcut2
        go_wp2_with fail
        go_ret
        rw [hkr.out, ← hqe.out]
        exact ⟨A7, c7, _, by rw [← hlq.out]; rfl, hdr.out, hb7.out⟩
      · obtain ⟨q, hqe⟩ : ∃ q, q = k + 1 - z := ⟨_, rfl⟩
        obtain rfl : q = 0 := by omega
        replace hqe := Lib.hid hqe
        have hqk : 0 ≤ k := by omega
        go_wp2_with (first | (go_at_call 60; refine (clone_any _ _ _ st _ HS4.out hm hB).mono ?_; rintro e w5 ⟨A5, c5, rfl, o5, b5⟩; have O5 := Lib.hid o5; have HO5 := Lib.hid (HO4.out.below b5); have HB5 := Lib.hid (below_step HB4.out b5 hsz4); have hz5 := b5.size; clear o5 b5) | (at_builtin; refine push_row _ rfl _ _ rfl w.heap.size k c4 w5.heap.size 1 A4 A5 st.length c5 vs rfl rfl (by have := HO5.out.outer.alloc (.cells #[.slice A5 st.length c5] 29); rw [HLK.out] at this; exact this) (cell_new _ _ _ 0) (by omega) (by simp; omega) ?_; intro A6 c6 w6 o6 g6; have hsn := Lib.hid (GOwn.snoc (HO5.out.allocP (.cells #[.slice A5 st.length c5] 29)) st (.slice A5 st.length c5) (by rw [HLK.out]; exact o6) (by rw [HLK.out]; exact g6) (own_base (O5.out.alloc _) (by omega)) (fun g hg => (O5.out.lt g hg).1) (by simp; omega)); have hb6 := Lib.hid ((HB5.out.alloc HB5.out.size (.cells #[.slice A5 st.length c5] 29)).grown g6 (Nat.le_trans HB5.out.size (size_alloc_le _ _)) (fun q hq => by have := HO5.out.outer; rw [HLK.out] at this; exact (this.lt q hq).1)); have hc6 := own_cap o6; obtain ⟨gb, cap6, e6, hgb1, hgb2⟩ := o6.form (by omega); injection e6 with e6 _ e7; subst e6 e7; clear o6 g6))
        obtain ⟨q, hq0⟩ : ∃ q : Nat, q = 0 := ⟨_, rfl⟩
        have hqz := Lib.hid hq0
        have hqk : q ≤ k := by omega
        rw [← hq0] at hqe
        rw [show (.slice (some ⟨gb, 0, none⟩) (k + 1) c6 : Value) = .slice (some ⟨gb, q, none⟩) (k + 1 - q) (c6 - q) by rw [hq0]; rfl]
        clear hq0
        have hcut := (Reads.of_own hsn.out.outer).cut (k := q) (cap := c6) (by rw [List.length_append, HLK.out]; simp; omega) (by rw [List.length_append, HLK.out]; exact hc6)
        rw [if_neg (by omega), List.length_append, HLK.out, show k + [st].length - q = k + 1 - q from rfl] at hcut
        have hcut2 : Reads w6 w6.heap.size 1 (some ⟨gb, q, none⟩) (k + 1 - q) ((vs ++ [Value.slice A5 st.length c5]).drop q) := by
          rw [Nat.mul_one] at hcut
          rcases Nat.eq_zero_or_pos q with h0 | h0
          · rw [h0] at hcut ⊢
            simpa [Addr.add] using hcut
          · simpa [Addr.add, Nat.ne_of_gt h0] using hcut
        refine (cloneRows_any ⟨gb, q, none⟩ (k + 1 - q) (c6 - q) _ _ hcut2 (fun u hu => hsn.out.cells u (List.mem_of_mem_drop hu)) (by omega)).mono ?_
        rintro e w7 ⟨A7, c7, rfl, o7, b7⟩
        have hdr := Lib.hid (hsn.out.dropped b7 (k := q) (by rw [List.length_append, HLK.out]; simp; omega) (by rw [List.length_append, HLK.out]; exact o7) hb6.out.size b7.size)
        have hb7 := Lib.hid (below_step hb6.out b7 hb6.out.size)
        have hlq := Lib.hid (show k + 1 - q = ((os ++ [st]).drop q).length by rw [List.length_drop, List.length_append, HLK.out]; rfl)
        clear o7 b7 hcut hcut2
        go_wp2_with fail
        go_ret
        rw [hkr.out, ← hqe.out]
        exact ⟨A7, c7, _, by rw [← hlq.out]; rfl, hdr.out, hb7.out⟩
set_option maxHeartbeats 1000000 in
theorem keepState_spec (A B : Option Addr) (n c m d : Nat) (os : List (List Int)) (st : List Int) (sz : Int) (w : World) (h : GRd w A n os) (hs : Ints w w.heap.size B m st) (hB : B = none → d = 0) (hm : m ≤ 1000000000) (hn : n ≤ 1000000000) (hd : ∀ k, k < n → (os.getD k []).length ≤ 2000000) :
    Calls Try.prog 37 #[.slice A n c, .slice B m d, .int .i64 sz] w (GivesG w (keepR os st sz)) := by
  have hl := h.1
  have hlm := hs.len
  have hba0 : Below w.heap.size w (w.alloc (.cells #[] 29)) := by go_grown
  have H := Lib.hid h
  have HS0 := Lib.hid hs
  have HS := Lib.hid (hs.step (Nat.le_refl _) hba0)
  have HD := Lib.hid hd
  clear h hs hd
  subst hlm
  by_cases h16 : (n : Int) > 16
  · have sa := trivial
    have hin := trivial
    rw [keep_bad (os := os) (st := st) (sz := sz) (by simp; omega)]
    go_enter Try.func37, Try.ntmps37
    go_wp2_with (first | (go_at_call 62; refine (l16Bytes_any _ _ _ st _ HS.out hm).mono ?_; rintro e w' ⟨rfl, rfl⟩; rw [sa]) | (go_at_call 43; refine (l1In_any _ _ _ _).mono ?_; rintro e w' ⟨rfl, rfl⟩; rw [hin]))
    go_ret
    exact ⟨_, 0, [], rfl, gown_lit w, by go_grown⟩
  cases sa : stB st
  · have hin := trivial
    rw [keep_bad (os := os) (st := st) (sz := sz) (by rw [sa]; simp)]
    go_enter Try.func37, Try.ntmps37
    go_wp2_with (first | (go_at_call 62; refine (l16Bytes_any _ _ _ st _ HS.out hm).mono ?_; rintro e w' ⟨rfl, rfl⟩; rw [sa]) | (go_at_call 43; refine (l1In_any _ _ _ _).mono ?_; rintro e w' ⟨rfl, rfl⟩; rw [hin]))
    go_ret
    exact ⟨_, 0, [], rfl, gown_lit w, by go_grown⟩
  cases hin : inB sz 1 16
  · rw [keep_bad (os := os) (st := st) (sz := sz) (by rw [hin]; simp)]
    go_enter Try.func37, Try.ntmps37
    go_wp2_with (first | (go_at_call 62; refine (l16Bytes_any _ _ _ st _ HS.out hm).mono ?_; rintro e w' ⟨rfl, rfl⟩; rw [sa]) | (go_at_call 43; refine (l1In_any _ _ _ _).mono ?_; rintro e w' ⟨rfl, rfl⟩; rw [hin]))
    go_ret
    exact ⟨_, 0, [], rfl, gown_lit w, by go_grown⟩
  have hz := inB_iff.1 hin
  obtain ⟨z, rfl⟩ := Int.eq_ofNat_of_zero_le (show 0 ≤ sz by omega)
  have hz2 : 1 ≤ z ∧ z ≤ 16 := by omega
  obtain ⟨q, hqe⟩ : ∃ q, q = n + 1 - z := ⟨_, rfl⟩
  have hqn : q ≤ n := by omega
  have hqz : ∀ k : Nat, (k : Int) > (n : Int) - (z : Int) ↔ q ≤ k := fun k => by omega
  have HQZ := Lib.hid hqz
  have HQE := Lib.hid hqe
  have hba1 := Lib.hid hba0
  clear hqe hqz hba0
  go_enter Try.func37, Try.ntmps37
  go_wp2_with (first | (go_at_call 62; refine (l16Bytes_any _ _ _ st _ HS.out hm).mono ?_; rintro e w' ⟨rfl, rfl⟩; rw [sa]) | (go_at_call 43; refine (l1In_any _ _ _ _).mono ?_; rintro e w' ⟨rfl, rfl⟩; rw [hin]))
  go_loopw [7, 8] (fun out i wr => ∃ (k L : Nat) (A' : Option Addr) (c' : Nat) (vs : List Value), k ≤ n ∧ i = .int .i64 k ∧ out = .slice A' L c' ∧ L ≤ k ∧ ((os.take k).drop q).length = L ∧ (∀ i, i < k → stB (os.getD i []) = true) ∧ GOwn wr w.heap.size wr.heap.size A' c' ((os.take k).drop q) vs ∧ Below w.heap.size w wr) (fun _ i _ => n - (intOf i).toNat)
  case atStart => exact ⟨0, 0, _, 0, [], Nat.zero_le _, rfl, rfl, Nat.le_refl _, by simp, (fun i hi => by omega), by simpa using gown_lit w, hba1.out⟩
  case round =>
    obtain ⟨k, L, A', c', vs, hk, rfl, rfl, hLk, hLL, hall, hown, hb⟩ := hrel
    have hsz := hb.size
    have HB := Lib.hid hb
    have HO := Lib.hid hown
    have HLL := Lib.hid hLL
    by_cases hlt : k < n
    · obtain ⟨b, off, X, cx, e1, hb1, c1, -, hN, i1⟩ := (H.out.below hb).spot hlt
      have hdk := HD.out k hlt
      have q0 : (0 : Int) ≤ (k : Int) := by omega
      have q1 : (k : Int) < (n : Int) := by omega
      have htk : os.take (k + 1) = os.take k ++ [os.getD k []] := (take_getDR [] (show k < os.length by omega)).symm
      have htl : (os.take k).length = k := by rw [List.length_take]; omega
      have E1 := Lib.hid e1
      have HI := Lib.hid i1
      have HN := Lib.hid hN
      clear hb hown hLL e1 i1 hN
      cases hsb : stB (os.getD k [])
      · have hbad := Lib.hid (keep_bad (os := os) (st := st) (sz := (z : Int)) (by rw [all_bad (by omega) hsb]; simp))
        clear hall htk htl
        generalize os.getD k [] = row at c1 HI hdk hsb
        rw [E1.out]
        go_wp2_with (go_at_call 62; refine (l16Bytes_any _ _ _ row _ HI.out (by omega)).mono ?_; rintro e w' ⟨rfl, rfl⟩; rw [hsb])
        go_ret
        rw [hbad.out]
        exact ⟨_, 0, [], rfl, (gown_lit wr).basis hsz, HB.out.alloc hsz _⟩
      · have HSB := Lib.hid (show ∀ i, i < k + 1 → stB (os.getD i []) = true from fun i hi => by rcases Nat.lt_or_ge i k with h | h; exact hall i h; obtain rfl : i = k := (by omega); exact hsb)
        by_cases hqk : q ≤ k
        · have hgt : (k : Int) > (n : Int) - (z : Int) := (HQZ.out k).2 hqk
          have htd := Lib.hid (show (os.take (k + 1)).drop q = (os.take k).drop q ++ [os.getD k []] by rw [htk, List.drop_append_of_le_length (by omega)])
          clear hall htk htl
          generalize os.getD k [] = row at c1 HI hdk hsb htd
          rw [E1.out]
          have hba : Below wr.heap.size wr (wr.alloc (.cells #[] 3)) := by go_grown
          have HBA := Lib.hid hba
          have HL0 := Lib.hid (show (wr.alloc (.cells #[] 3)).ownsRow wr.heap.size 3 1 (.slice (some ⟨wr.heap.size, 0, none⟩) 0 0) 0 (iv []) from World.ownsRow_lit wr #[] 0 (Nat.le_refl _) (by simp [maxLen]) rfl)
          have HIB := Lib.hid (HI.out.below hba)
          clear hba
          go_wp2_with (first | (go_at_call 62; refine (l16Bytes_any _ _ _ row _ HI.out (by omega)).mono ?_; rintro e w' ⟨rfl, rfl⟩; rw [hsb]) | (at_builtin; refine push_list _ rfl _ _ rfl wr.heap.size 0 0 row.length cx wr.heap.size _ X [] row rfl rfl HL0.out HIB.out HN.out (by omega) (by simp) ?_; intro A5 c5 w5 o5 b5; rw [List.nil_append, Nat.zero_add] at o5; rw [Nat.zero_add]; have O5 := Lib.hid o5; have HB5 := Lib.hid (below_step HB.out (HBA.out.trans b5) hsz); have HO5 := Lib.hid (HO.out.below (HBA.out.trans b5)); have hz5 := (HBA.out.trans b5).size; clear o5 b5) | (at_builtin; refine push_row _ rfl _ _ rfl w.heap.size L c' w5.heap.size 1 A' A5 row.length c5 vs rfl rfl (by have := HO5.out.outer.alloc (.cells #[.slice A5 row.length c5] 29); rw [HLL.out] at this; exact this) (cell_new _ _ _ 0) (by omega) (by simp; omega) ?_; intro A6 c6 w6 o6 g6; have hsn := Lib.hid (GOwn.snoc (HO5.out.allocP (.cells #[.slice A5 row.length c5] 29)) row (.slice A5 row.length c5) (by rw [HLL.out]; exact o6) (by rw [HLL.out]; exact g6) (own_base (O5.out.alloc _) hsz) (fun g hg => (O5.out.lt g hg).1) (by simp; omega)); have hb6 := Lib.hid ((HB5.out.alloc HB5.out.size (.cells #[.slice A5 row.length c5] 29)).grown g6 (Nat.le_trans HB5.out.size (size_alloc_le _ _)) (fun q hq => by have := HO5.out.outer; rw [HLL.out] at this; exact (this.lt q hq).1)); clear o6 g6))
          go_roundw
          case rel => exact ⟨k + 1, L + 1, A6, c6, vs ++ [.slice A5 row.length c5], by omega, by go_num, rfl, by omega, by rw [htd.out, List.length_append, HLL.out]; rfl, HSB.out, by rw [htd.out]; exact hsn.out, hb6.out⟩
          case measure => simp [intOf]; omega
        · have hgt : ¬ ((k : Int) > (n : Int) - (z : Int)) := fun h => hqk ((HQZ.out k).1 h)
          have htd := Lib.hid (show (os.take (k + 1)).drop q = (os.take k).drop q by rw [List.drop_eq_nil_of_le (by rw [List.length_take]; omega), List.drop_eq_nil_of_le (by omega)])
          clear hall htk htl
          generalize os.getD k [] = row at c1 HI hdk hsb
          rw [E1.out]
          go_wp2_with (go_at_call 62; refine (l16Bytes_any _ _ _ row _ HI.out (by omega)).mono ?_; rintro e w' ⟨rfl, rfl⟩; rw [hsb])
          go_roundw
          case rel => exact ⟨k + 1, L, A', c', vs, by omega, by go_num, rfl, by omega, by rw [htd.out]; exact HLL.out, HSB.out, by rw [htd.out]; exact HO.out, HB.out⟩
          case measure => simp [intOf]; omega
    · obtain rfl : k = n := by omega
      have hkr := Lib.hid (show keepR os st (z : Int) = (os.take k).drop q ++ [st] by unfold keepR; rw [if_pos (by rw [sa, hin, all_of (fun i hi => hall i (by omega))]; simp; omega), hl, Int.toNat_natCast, ← HQE.out, List.take_of_length_le (by omega), List.drop_append_of_le_length (by omega)])
      have hkl := Lib.hid (show L + 1 = ((os.take k).drop q ++ [st]).length by rw [List.length_append, HLL.out]; rfl)
      have HI := Lib.hid ((HS0.out.below hb).more hsz)
      clear hb hown hLL hall
      have hba : Below wr.heap.size wr (wr.alloc (.cells #[] 3)) := by go_grown
      have HBA := Lib.hid hba
      have HL0 := Lib.hid (show (wr.alloc (.cells #[] 3)).ownsRow wr.heap.size 3 1 (.slice (some ⟨wr.heap.size, 0, none⟩) 0 0) 0 (iv []) from World.ownsRow_lit wr #[] 0 (Nat.le_refl _) (by simp [maxLen]) rfl)
      have HIB := Lib.hid (HI.out.below hba)
      clear hba
      go_wp2_with (first | (fail) | (at_builtin; refine push_list _ rfl _ _ rfl wr.heap.size 0 0 st.length d wr.heap.size _ B [] st rfl rfl HL0.out HIB.out hB (by omega) (by simp) ?_; intro A5 c5 w5 o5 b5; rw [List.nil_append, Nat.zero_add] at o5; rw [Nat.zero_add]; have O5 := Lib.hid o5; have HB5 := Lib.hid (below_step HB.out (HBA.out.trans b5) hsz); have HO5 := Lib.hid (HO.out.below (HBA.out.trans b5)); have hz5 := (HBA.out.trans b5).size; clear o5 b5) | (at_builtin; refine push_row _ rfl _ _ rfl w.heap.size L c' w5.heap.size 1 A' A5 st.length c5 vs rfl rfl (by have := HO5.out.outer.alloc (.cells #[.slice A5 st.length c5] 29); rw [HLL.out] at this; exact this) (cell_new _ _ _ 0) (by omega) (by simp; omega) ?_; intro A6 c6 w6 o6 g6; have hsn := Lib.hid (GOwn.snoc (HO5.out.allocP (.cells #[.slice A5 st.length c5] 29)) st (.slice A5 st.length c5) (by rw [HLL.out]; exact o6) (by rw [HLL.out]; exact g6) (own_base (O5.out.alloc _) hsz) (fun g hg => (O5.out.lt g hg).1) (by simp; omega)); have hb6 := Lib.hid ((HB5.out.alloc HB5.out.size (.cells #[.slice A5 st.length c5] 29)).grown g6 (Nat.le_trans HB5.out.size (size_alloc_le _ _)) (fun q hq => by have := HO5.out.outer; rw [HLL.out] at this; exact (this.lt q hq).1)); clear o6 g6))
      go_ret
      rw [hkr.out]
      exact ⟨A6, c6, _, by rw [← hkl.out]; rfl, hsn.out, hb6.out⟩
theorem sumR_bd : ∀ (os : List (List Int)) (m : Nat), (∀ x ∈ os, x.length ≤ m) → sumR os ≤ os.length * m
  | [], m, _ => by simp [sumR]
  | o :: os, m, h => by
    have h1 := sumR_bd os m fun x hx => h x (List.mem_cons_of_mem _ hx)
    have h2 := h o (List.mem_cons_self ..)
    simp only [sumR, List.map_cons, List.sum_cons, List.length_cons] at h1 ⊢
    rw [Nat.add_mul]
    omega
theorem keepR_bd (os : List (List Int)) (st : List Int) (sz : Int) : (keepR os st sz).length ≤ 17 ∧ ∀ x ∈ keepR os st sz, x.length ≤ 512 := by
  unfold keepR
  split
  · rename_i h
    simp only [Bool.and_eq_true, decide_eq_true_eq, List.all_eq_true] at h
    obtain ⟨h1, h2, h3, h4⟩ := h
    refine ⟨by simp; omega, fun x hx => ?_⟩
    have hx := List.mem_of_mem_drop hx
    rcases List.mem_append.1 hx with hx | hx
    · have := h4 x hx
      simp only [stB, Bool.and_eq_true, decide_eq_true_eq] at this
      exact this.1
    · simp at hx
      subst hx
      simp only [stB, Bool.and_eq_true, decide_eq_true_eq] at h2
      exact h2.1
  · simp
theorem keepR_each {os : List (List Int)} {m : Nat} (h : ∀ x ∈ os, x.length ≤ m) : ∀ k, k < os.length → (os.getD k []).length ≤ m := fun k hk => by
  rw [List.getD_eq_getElem?_getD, List.getElem?_eq_getElem hk]
  exact h _ (List.getElem_mem hk)
end Go.Proofs.Ytmdebahhlgfboaa
