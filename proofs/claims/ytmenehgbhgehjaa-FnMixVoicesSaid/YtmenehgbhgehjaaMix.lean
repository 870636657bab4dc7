/-
  MixVoices in both packages; sums of samples in plain words. No condition but that lengths stay in range.
-/
import Derived.Test.YtmenehgbhgehjaaPlayI
import Derived.Test.YtmenehgbhgehjaaTupVoice
namespace Go.Proofs.Ytmenehgbhgehjaa
open Go.RowKit
set_option linter.unusedVariables false
set_option linter.unusedSimpArgs false
def voOf (t : TVoice) : Vo := ⟨t.1, t.2.1, t.2.2.1, t.2.2.2.1, t.2.2.2.2⟩
def mixS (N : Nat) (ts : List TVoice) : List Int := (List.range N).map fun k => (ts.map fun t => (sampV N (voOf t)).getD k 0).sum
theorem mixS_len (N : Nat) (ts : List TVoice) : (mixS N ts).length = N := by simp [mixS]
theorem mixS_get {N k : Nat} (ts : List TVoice) (h : k < N) : (mixS N ts).getD k 0 = (ts.map fun t => (sampV N (voOf t)).getD k 0).sum := by
  simp [mixS, List.getD_eq_getElem?_getD, h]
def addTo (j : Nat) (acc s : List Int) : List Int := (List.range acc.length).map fun i => if i < j then acc.getD i 0 + s.getD i 0 else acc.getD i 0
theorem addTo_len (j : Nat) (acc s : List Int) : (addTo j acc s).length = acc.length := by simp [addTo]
theorem addTo_zero (acc s : List Int) : addTo 0 acc s = acc := by
  apply List.ext_getElem (by simp [addTo])
  intro i h1 h2
  simp [addTo, List.getD_eq_getElem?_getD, h2]
theorem addTo_get {j : Nat} (acc s : List Int) (h : j < acc.length) : (addTo j acc s).getD j 0 = acc.getD j 0 := by
  simp [addTo, List.getD_eq_getElem?_getD, h]
theorem addTo_set {j : Nat} (acc s : List Int) (h : j < acc.length) : (addTo j acc s).set j (acc.getD j 0 + s.getD j 0) = addTo (j + 1) acc s := by
  apply List.ext_getElem (by simp [addTo])
  intro i h1 h2
  rw [List.getElem_set]
  simp only [addTo, List.getElem_map, List.getElem_range]
  by_cases e : j = i
  · subst e
    rw [if_pos rfl, if_pos (by omega)]
  · rw [if_neg e]
    by_cases hi : i < j
    · rw [if_pos hi, if_pos (by omega)]
    · rw [if_neg hi, if_neg (by omega)]
theorem addTo_mix (N : Nat) (us : List TVoice) (t : TVoice) : addTo N (mixS N us) (sampV N (voOf t)) = mixS N (us ++ [t]) := by
  apply List.ext_getElem (by simp [addTo, mixS])
  intro i h1 h2
  rw [mixS_len] at h2
  have e := mixS_get us h2
  simp only [addTo, mixS, List.getElem_map, List.getElem_range]
  rw [if_pos h2]
  simp only [mixS] at e
  rw [e]
  simp
theorem samp_bd : ∀ (n : Nat) {v : Vo}, vvB v = true → ∀ x ∈ sampV n v, 0 ≤ x ∧ x ≤ 15
  | 0, _, _, x, hx => by simp [sampV] at hx
  | n + 1, v, h, x, hx => by
    rcases List.mem_cons.1 hx with rfl | hx
    · have := lev_bd h; omega
    · exact samp_bd n (next_valid h) x hx
theorem sampD_bd (n k : Nat) {v : Vo} (h : vvB v = true) : 0 ≤ (sampV n v).getD k 0 ∧ (sampV n v).getD k 0 ≤ 15 := by
  rw [List.getD_eq_getElem?_getD]
  rcases Nat.lt_or_ge k (sampV n v).length with hk | hk
  · rw [List.getElem?_eq_getElem hk]
    exact samp_bd n h _ (List.getElem_mem hk)
  · rw [List.getElem?_eq_none hk]
    exact ⟨Int.le_refl 0, by decide⟩
theorem sum_bd (N k : Nat) : ∀ us : List TVoice, (∀ t ∈ us, vvB (voOf t) = true) → 0 ≤ (us.map fun t => (sampV N (voOf t)).getD k 0).sum ∧ (us.map fun t => (sampV N (voOf t)).getD k 0).sum ≤ 15 * (us.length : Int)
  | [], _ => by simp
  | t :: us, h => by
    obtain ⟨a1, a2⟩ := sum_bd N k us fun x hx => h x (List.mem_cons_of_mem _ hx)
    obtain ⟨b1, b2⟩ := sampD_bd N k (h t (List.mem_cons_self ..))
    simp only [List.map_cons, List.sum_cons, List.length_cons]
    omega
theorem mix_bd {N k : Nat} {us : List TVoice} (h : ∀ t ∈ us, vvB (voOf t) = true) (hk : k < N) : 0 ≤ (mixS N us).getD k 0 ∧ (mixS N us).getD k 0 ≤ 15 * (us.length : Int) := by
  rw [mixS_get us hk]; exact sum_bd N k us h
def mixB (ts : List TVoice) (n : Int) : Bool := decide (ts.length ≤ 4) && inB n 0 400 && ts.all fun t => vvB (voOf t)
def mixR (ts : List TVoice) (n : Int) : List Int := if mixB ts n then mixS n.toNat ts else []
theorem mixR_bad {ts : List TVoice} {n : Int} (h : mixB ts n = false) : mixR ts n = [] := by simp [mixR, h]
theorem mixR_good {ts : List TVoice} {N : Nat} (h : mixB ts N = true) : mixR ts N = mixS N ts := by simp [mixR, h]
theorem mixR_at {ts : List TVoice} {n : Int} {k : Nat} {t : TVoice} (hk : k < ts.length) (ht : t = ts.getD k (0, 0, 0, 0, 0)) (hv : vvB (voOf t) = false) : mixR ts n = [] := by
  refine mixR_bad ?_
  have : (ts.all fun t => vvB (voOf t)) = false := by
    rw [List.all_eq_false]
    refine ⟨t, ?_, by simp [hv]⟩
    rw [ht, List.getD_eq_getElem?_getD, List.getElem?_eq_getElem hk]
    exact List.getElem_mem hk
  simp [mixB, this]
theorem mixR_len (ts : List TVoice) (n : Int) : (mixR ts n).length ≤ 400 := by
  cases h : mixB ts n
  · rw [mixR_bad h]; simp
  · have h' := h
    simp only [mixB, Bool.and_eq_true, inB_iff] at h'
    obtain ⟨N, rfl⟩ := Int.eq_ofNat_of_zero_le h'.1.2.1
    rw [mixR_good h, mixS_len]
    omega
theorem take_snoc {k : Nat} (ts : List TVoice) (h : k < ts.length) : ts.take k ++ [ts.getD k (0, 0, 0, 0, 0)] = ts.take (k + 1) := by
  rw [List.take_add_one, List.getD_eq_getElem?_getD, List.getElem?_eq_getElem h]
  rfl
def GivesN (w : World) (N : Nat) (v : Vo) (e : Ending) (w' : World) : Prop := ∃ A c, e = .returned (.tuple #[.slice A N c, (iterV N v).val]) ∧ w'.ownsRow w.heap.size 3 1 (.slice A N c) N (iv (sampV N v)) ∧ Below w.heap.size w w'
theorem givesN_of {w w' : World} {N : Nat} {v : Vo} {e : Ending} (hv : vvB v = true) (hN : N ≤ 400) (h : GivesP w (playL v N) (playV v N) e w') : GivesN w N v e w' := by
  obtain ⟨e1, e2⟩ := play_good (show playB v N = true by simp [playB, hv, inB_iff]; omega)
  obtain ⟨A, c, rfl, o, b⟩ := h
  rw [e1, sampV_len] at o
  exact ⟨A, c, by rw [e1, e2, sampV_len], o, b⟩
set_option maxHeartbeats 4000000 in
theorem mixVoices_impl (A : Option Addr) (L c : Nat) (ts : List TVoice) (n : Int) (w : World) (h : Reads w w.heap.size 5 A L (iv (flVoice ts))) (hL : L ≤ 1000000000) :
    Calls Try.prog 31 #[.slice A L c, .int .i64 n] w (Gives w (mixR ts n)) := by
  have hl := voice_len h
  have H := Lib.hid h
  clear h
  by_cases h4 : 4 < L
  · rw [mixR_bad (show mixB ts n = false by simp [mixB]; omega)]
    go_enter Try.func31, Try.ntmps31
    go_wp2_with (go_at_call 56; refine (within_any _ _ _ _).mono ?_; rintro e w' ⟨rfl, rfl⟩)
    go_ret
    exact ⟨none, 0, rfl, World.ownsRow_nil _ _ _ _, Below.refl _ _⟩
  cases hn : inB n 0 400
  · rw [mixR_bad (show mixB ts n = false by simp [mixB, hn])]
    go_enter Try.func31, Try.ntmps31
    go_wp2_with (go_at_call 56; refine (within_any _ _ _ _).mono ?_; rintro e w' ⟨rfl, rfl⟩)
    go_ret
    exact ⟨none, 0, rfl, World.ownsRow_nil _ _ _ _, Below.refl _ _⟩
  obtain ⟨N, rfl⟩ := Int.eq_ofNat_of_zero_le (inB_iff.1 hn).1
  have hN : N ≤ 400 := by have := (inB_iff.1 hn).2; omega
  go_enter Try.func31, Try.ntmps31
  go_wp2_with (first | (go_at_call 56; refine (within_any _ _ _ _).mono ?_; rintro e w' ⟨rfl, rfl⟩) | (at_make; refine make_full _ rfl _ _ rfl N rfl rfl (by omega) w.heap.size (Nat.le_refl _) ?_; intro w1 ho1 hb1; replace ho1 := Lib.hid ho1; replace hb1 := Lib.hid hb1))
  go_loopw [24] (fun i wr => ∃ k : Nat, k ≤ L ∧ i = .int .i64 k ∧ wr.ownsRow w.heap.size 3 1 (.slice (some ⟨w.heap.size, 0, none⟩) N N) N (iv (mixS N (ts.take k))) ∧ Below w.heap.size w wr ∧ ∀ t ∈ ts.take k, vvB (voOf t) = true) (fun i _ => L - (intOf i).toNat)
  case atStart => exact ⟨0, Nat.zero_le _, rfl, by simpa [mixS, List.map_const'] using ho1.out, hb1.out, by simp⟩
  case round =>
    obtain ⟨k, hk, rfl, hown, hb, hval⟩ := hrel
    have HO := Lib.hid hown
    have HB := Lib.hid hb
    have hsz := hb.size
    have hgl := (World.ownsRow.lt hown w.heap.size rfl).2
    clear ho1 hb1 hown
    by_cases hlt : k < L
    · obtain ⟨b, off, e1, _, h0, h1, h2, h3, h4'⟩ := voice_spot (H.out.below hb) hlt
      have hsn := take_snoc ts (show k < ts.length by omega)
      obtain ⟨t, ht⟩ : ∃ t, t = ts.getD k (0, 0, 0, 0, 0) := ⟨_, rfl⟩
      rw [← ht] at h0 h1 h2 h3 h4' hsn
      obtain ⟨x0, x1, x2, x3, x4⟩ := t
      have q1 : (k : Int) < (L : Int) := by omega
      have q2 : (0 : Int) ≤ (k : Int) := by omega
      have HT := Lib.hid ht
      have HSN := Lib.hid hsn
      have HVAL := Lib.hid hval
      clear ht hsn hval hb
      subst e1
      cases hv : vvB ⟨x0, x1, x2, x3, x4⟩
      · rw [mixR_at (show k < ts.length by omega) HT.out hv]
        go_wp2_with (go_at_call 21; refine (voiceValid_impl ⟨x0, x1, x2, x3, x4⟩ _).mono ?_; rintro e w5 ⟨rfl, b5⟩; rw [hv]; replace HB := Lib.hid (below_step (HB.out.alloc HB.out.size _) b5 (Nat.le_trans HB.out.size (size_alloc_le _ _))); clear b5)
        go_ret
        exact ⟨none, 0, rfl, World.ownsRow_nil _ _ _ _, HB.out⟩
      · have hv' := Lib.hid hv
        obtain ⟨acc, hacc⟩ : ∃ acc, acc = mixS N (ts.take k) := ⟨_, rfl⟩
        have hbd := Lib.hid (fun m (hm : m < N) => mix_bd (k := m) (N := N) HVAL.out hm)
        have hal : acc.length = N := by rw [hacc, mixS_len]
        have htk : (ts.take k).length ≤ 4 := by rw [List.length_take]; omega
        rw [← hacc] at HO hbd
        have HACC := Lib.hid hacc
        clear hacc hv
        go_wp2_with (first | (go_at_call 21; refine (voiceValid_impl ⟨x0, x1, x2, x3, x4⟩ _).mono ?_; rintro e w5 ⟨rfl, b5⟩; rw [hv'.out]; have HV := Lib.hid ((HasV.new wr ⟨x0, x1, x2, x3, x4⟩).below b5); replace HO := Lib.hid (own_below (HO.out.alloc _) b5); replace HB := Lib.hid (below_step (HB.out.alloc HB.out.size _) b5 (Nat.le_trans HB.out.size (size_alloc_le _ _))); clear b5; obtain ⟨p0, p1, p2, p3, p4⟩ := HV.out.cells; have hg5 := (World.ownsRow.lt HO.out w.heap.size rfl).2) | (go_at_call 20; refine (playVoice_impl ⟨x0, x1, x2, x3, x4⟩ N _).mono ?_; intro e w6 h6; obtain ⟨A3, c3, rfl, o6, b6⟩ := givesN_of hv'.out hN h6; clear h6; replace HO := Lib.hid (own_below HO.out b6); replace HB := Lib.hid (below_step HB.out b6 HB.out.size); have HS := Lib.hid o6; clear b6 o6))
        obtain ⟨s, hs⟩ : ∃ s, s = sampV N ⟨x0, x1, x2, x3, x4⟩ := ⟨_, rfl⟩
        have hsl : s.length = N := by rw [hs, sampV_len]
        have hsb := Lib.hid (fun m => sampD_bd N m hv'.out)
        rw [← hs] at HS hsb
        have HSE := Lib.hid hs
        clear hs
        go_loopw [39] (fun i wr => ∃ m : Nat, m ≤ N ∧ i = .int .i64 m ∧ wr.ownsRow w.heap.size 3 1 (.slice (some ⟨w.heap.size, 0, none⟩) N N) N (iv (addTo m acc s)) ∧ wr.ownsRow w5.heap.size 3 1 (.slice A3 N c3) N (iv s) ∧ Below w.heap.size w wr) (fun i _ => N - (intOf i).toNat)
        case atStart => exact ⟨0, Nat.zero_le _, rfl, by rw [addTo_zero]; exact HO.out.alloc _, HS.out.alloc _, HB.out.alloc HB.out.size _⟩
        case round =>
          obtain ⟨m, hm, rfl, ho, hso, hb⟩ := hrel
          replace HO := Lib.hid ho
          replace HS := Lib.hid hso
          replace HB := Lib.hid hb
          have hgl2 := (World.ownsRow.lt ho w.heap.size rfl).2
          by_cases hlm : m < N
          · have c0 : wr.cell? ⟨w.heap.size, m, none⟩ = some (.int .i64 (acc.getD m 0)) := by
              have := (ho.cellAt m (by omega)).trans (iv_getD (by rw [addTo_len]; omega))
              rwa [addTo_get acc s (by omega)] at this
            have f0 : wr.frozen? ⟨w.heap.size, m, none⟩ = false := ho.frozenAt m
            obtain ⟨b2, o2, e2, hb2, c2⟩ := (own_ints hso).spot hlm
            obtain ⟨a1, a2⟩ := hbd.out m hlm
            obtain ⟨d1, d2⟩ := hsb.out m
            have st := ho.stored m (.int .i64 (acc.getD m 0 + s.getD m 0))
            rw [iv_set, addTo_set acc s (by omega)] at st
            generalize acc.getD m 0 = X at c0 a1 a2 st
            generalize s.getD m 0 = Y at c2 d1 d2 st
            have q5 : (m : Int) < (N : Int) := by omega
            have q6 : (0 : Int) ≤ (m : Int) := by omega
            have q7 : 0 ≤ X + Y := by omega
            have q8 : X + Y ≤ 1000 := by omega
            have ST := Lib.hid st
            clear ho hso hb st a1 a2 d1 d2
            subst e2
            go_wp2_with fail
            go_roundw
            case rel =>
              have h1 := ST.out.1
              have h2 := HS.out.kept ST.out.2 (.inr (fun e => by have := (HS.out.lt _ e).1; omega))
              have h3 := HB.out.grown ST.out.2 HB.out.size (by intro k hk; injection hk with hk; omega)
              exact ⟨m + 1, by omega, by go_num, h1, h2, h3⟩
            case measure => simp [intOf]; omega
          · obtain rfl : m = N := by omega
            go_wp2
            go_roundw
            case rel =>
              refine ⟨k + 1, by omega, by go_num, ?_, HB.out, ?_⟩
              · have := HO.out
                rw [HACC.out, HSE.out, show (⟨x0, x1, x2, x3, x4⟩ : Vo) = voOf (x0, x1, x2, x3, x4) from rfl, addTo_mix, HSN.out] at this
                exact this
              · intro t ht
                rw [← HSN.out, List.mem_append, List.mem_singleton] at ht
                rcases ht with ht | rfl
                · exact HVAL.out t ht
                · exact hv'.out
            case measure => simp [intOf]; omega
    · obtain rfl : k = L := by omega
      have hgood := Lib.hid (mixR_good (show mixB ts N = true by simp only [mixB, hn, Bool.and_true, Bool.and_eq_true, decide_eq_true_eq]; exact ⟨by omega, List.all_eq_true.2 fun x hx => hval x (by rwa [List.take_of_length_le (by omega)])⟩))
      rw [List.take_of_length_le (by omega)] at HO
      go_wp2
      go_ret
      rw [hgood.out]
      exact ⟨some ⟨w.heap.size, 0, none⟩, N, by rw [mixS_len]; rfl, by rw [mixS_len]; exact HO.out, HB.out⟩
set_option maxHeartbeats 4000000 in
theorem mixVoices_spec (A : Option Addr) (L c : Nat) (ts : List TVoice) (n : Int) (w : World) (h : Reads w w.heap.size 5 A L (iv (flVoice ts))) (hL : L ≤ 1000000000) :
    Calls Try.prog 32 #[.slice A L c, .int .i64 n] w (Gives w (mixR ts n)) := by
  have hl := voice_len h
  have H := Lib.hid h
  clear h
  by_cases h4 : 4 < L
  · rw [mixR_bad (show mixB ts n = false by simp [mixB]; omega)]
    go_enter Try.func32, Try.ntmps32
    go_wp2_with (go_at_call 58; refine (l1In_any _ _ _ _).mono ?_; rintro e w' ⟨rfl, rfl⟩)
    go_ret
    exact ⟨_, _, rfl, World.ownsRow_lit _ #[] 0 (Nat.le_refl _) (by simp [maxLen]) rfl, (Below.refl _ _).alloc (Nat.le_refl _) _⟩
  cases hn : inB n 0 400
  · rw [mixR_bad (show mixB ts n = false by simp [mixB, hn])]
    go_enter Try.func32, Try.ntmps32
    go_wp2_with (go_at_call 58; refine (l1In_any _ _ _ _).mono ?_; rintro e w' ⟨rfl, rfl⟩)
    go_ret
    exact ⟨_, _, rfl, World.ownsRow_lit _ #[] 0 (Nat.le_refl _) (by simp [maxLen]) rfl, (Below.refl _ _).alloc (Nat.le_refl _) _⟩
  obtain ⟨N, rfl⟩ := Int.eq_ofNat_of_zero_le (inB_iff.1 hn).1
  have hN : N ≤ 400 := by have := (inB_iff.1 hn).2; omega
  go_enter Try.func32, Try.ntmps32
  go_wp2_with (first | (go_at_call 58; refine (l1In_any _ _ _ _).mono ?_; rintro e w' ⟨rfl, rfl⟩) | (at_make; refine make_full _ rfl _ _ rfl N rfl rfl (by omega) w.heap.size (Nat.le_refl _) ?_; intro w1 ho1 hb1; replace ho1 := Lib.hid ho1; replace hb1 := Lib.hid hb1))
  go_loopw [6] (fun i wr => ∃ k : Nat, k ≤ L ∧ i = .int .i64 k ∧ wr.ownsRow w.heap.size 3 1 (.slice (some ⟨w.heap.size, 0, none⟩) N N) N (iv (mixS N (ts.take k))) ∧ Below w.heap.size w wr ∧ ∀ t ∈ ts.take k, vvB (voOf t) = true) (fun i _ => L - (intOf i).toNat)
  case atStart => exact ⟨0, Nat.zero_le _, rfl, by simpa [mixS, List.map_const'] using ho1.out, hb1.out, by simp⟩
  case round =>
    obtain ⟨k, hk, rfl, hown, hb, hval⟩ := hrel
    have HO := Lib.hid hown
    have HB := Lib.hid hb
    have hsz := hb.size
    have hgl := (World.ownsRow.lt hown w.heap.size rfl).2
    clear ho1 hb1 hown
    by_cases hlt : k < L
    · obtain ⟨b, off, e1, _, h0, h1, h2, h3, h4'⟩ := voice_spot (H.out.below hb) hlt
      have hsn := take_snoc ts (show k < ts.length by omega)
      obtain ⟨t, ht⟩ : ∃ t, t = ts.getD k (0, 0, 0, 0, 0) := ⟨_, rfl⟩
      rw [← ht] at h0 h1 h2 h3 h4' hsn
      obtain ⟨x0, x1, x2, x3, x4⟩ := t
      have q1 : (k : Int) < (L : Int) := by omega
      have q2 : (0 : Int) ≤ (k : Int) := by omega
      have HT := Lib.hid ht
      have HSN := Lib.hid hsn
      have HVAL := Lib.hid hval
      clear ht hsn hval hb
      subst e1
      cases hv : vvB ⟨x0, x1, x2, x3, x4⟩
      · rw [mixR_at (show k < ts.length by omega) HT.out hv]
        go_wp2_with (go_at_call 18; refine (voiceValid_spec ⟨x0, x1, x2, x3, x4⟩ _).mono ?_; rintro e w5 ⟨rfl, b5⟩; rw [hv]; replace HB := Lib.hid (below_step HB.out b5 HB.out.size); clear b5)
        go_ret
        exact ⟨_, _, rfl, World.ownsRow_lit _ #[] 0 HB.out.size (by simp [maxLen]) rfl, HB.out.alloc HB.out.size _⟩
      · have hv' := Lib.hid hv
        obtain ⟨acc, hacc⟩ : ∃ acc, acc = mixS N (ts.take k) := ⟨_, rfl⟩
        have hbd := Lib.hid (fun m (hm : m < N) => mix_bd (k := m) (N := N) HVAL.out hm)
        have hal : acc.length = N := by rw [hacc, mixS_len]
        have htk : (ts.take k).length ≤ 4 := by rw [List.length_take]; omega
        rw [← hacc] at HO hbd
        have HACC := Lib.hid hacc
        clear hacc hv
        go_wp2_with (first | (go_at_call 18; refine (voiceValid_spec ⟨x0, x1, x2, x3, x4⟩ _).mono ?_; rintro e w5 ⟨rfl, b5⟩; rw [hv'.out]; replace HO := Lib.hid (own_below HO.out b5); replace HB := Lib.hid (below_step HB.out b5 HB.out.size); clear b5; have hr := voice_cells (H.out.below HB.out) hlt; rw [← HT.out] at hr; obtain ⟨-, p0, p1, p2, p3, p4⟩ := hr; have hg5 := (World.ownsRow.lt HO.out w.heap.size rfl).2) | (go_at_call 22; refine (playVoice_spec ⟨x0, x1, x2, x3, x4⟩ N _).mono ?_; intro e w6 h6; obtain ⟨A3, c3, rfl, o6, b6⟩ := givesN_of hv'.out hN h6; clear h6; replace HO := Lib.hid (own_below HO.out b6); replace HB := Lib.hid (below_step HB.out b6 HB.out.size); have HS := Lib.hid o6; clear b6 o6))
        obtain ⟨s, hs⟩ : ∃ s, s = sampV N ⟨x0, x1, x2, x3, x4⟩ := ⟨_, rfl⟩
        have hsl : s.length = N := by rw [hs, sampV_len]
        have hsb := Lib.hid (fun m => sampD_bd N m hv'.out)
        rw [← hs] at HS hsb
        have HSE := Lib.hid hs
        clear hs
        go_loopw [9] (fun i wr => ∃ m : Nat, m ≤ N ∧ i = .int .i64 m ∧ wr.ownsRow w.heap.size 3 1 (.slice (some ⟨w.heap.size, 0, none⟩) N N) N (iv (addTo m acc s)) ∧ wr.ownsRow w5.heap.size 3 1 (.slice A3 N c3) N (iv s) ∧ Below w.heap.size w wr) (fun i _ => N - (intOf i).toNat)
        case atStart => exact ⟨0, Nat.zero_le _, rfl, by rw [addTo_zero]; exact HO.out.alloc _, HS.out.alloc _, HB.out.alloc HB.out.size _⟩
        case round =>
          obtain ⟨m, hm, rfl, ho, hso, hb⟩ := hrel
          replace HO := Lib.hid ho
          replace HS := Lib.hid hso
          replace HB := Lib.hid hb
          have hgl2 := (World.ownsRow.lt ho w.heap.size rfl).2
          by_cases hlm : m < N
          · have c0 : wr.cell? ⟨w.heap.size, m, none⟩ = some (.int .i64 (acc.getD m 0)) := by
              have := (ho.cellAt m (by omega)).trans (iv_getD (by rw [addTo_len]; omega))
              rwa [addTo_get acc s (by omega)] at this
            have f0 : wr.frozen? ⟨w.heap.size, m, none⟩ = false := ho.frozenAt m
            obtain ⟨b2, o2, e2, hb2, c2⟩ := (own_ints hso).spot hlm
            obtain ⟨a1, a2⟩ := hbd.out m hlm
            obtain ⟨d1, d2⟩ := hsb.out m
            have st := ho.stored m (.int .i64 (acc.getD m 0 + s.getD m 0))
            rw [iv_set, addTo_set acc s (by omega)] at st
            generalize acc.getD m 0 = X at c0 a1 a2 st
            generalize s.getD m 0 = Y at c2 d1 d2 st
            have q5 : (m : Int) < (N : Int) := by omega
            have q6 : (0 : Int) ≤ (m : Int) := by omega
            have q7 : 0 ≤ X + Y := by omega
            have q8 : X + Y ≤ 1000 := by omega
            have ST := Lib.hid st
            clear ho hso hb st a1 a2 d1 d2
            subst e2
            (go_wp2; go_region; all_goals go_wp2)
            go_roundw
            case rel =>
              have h1 := ST.out.1
              have h2 := HS.out.kept ST.out.2 (.inr (fun e => by have := (HS.out.lt _ e).1; omega))
              have h3 := HB.out.grown ST.out.2 HB.out.size (by intro k hk; injection hk with hk; omega)
              exact ⟨m + 1, by omega, by go_num, h1, h2, h3.drew⟩
            case measure => simp [intOf]; omega
          · obtain rfl : m = N := by omega
            go_wp2
            go_roundw
            case rel =>
              refine ⟨k + 1, by omega, by go_num, ?_, HB.out, ?_⟩
              · have := HO.out
                rw [HACC.out, HSE.out, show (⟨x0, x1, x2, x3, x4⟩ : Vo) = voOf (x0, x1, x2, x3, x4) from rfl, addTo_mix, HSN.out] at this
                exact this
              · intro t ht
                rw [← HSN.out, List.mem_append, List.mem_singleton] at ht
                rcases ht with ht | rfl
                · exact HVAL.out t ht
                · exact hv'.out
            case measure => simp [intOf]; omega
    · obtain rfl : k = L := by omega
      have hgood := Lib.hid (mixR_good (show mixB ts N = true by simp only [mixB, hn, Bool.and_true, Bool.and_eq_true, decide_eq_true_eq]; exact ⟨by omega, List.all_eq_true.2 fun x hx => hval x (by rwa [List.take_of_length_le (by omega)])⟩))
      rw [List.take_of_length_le (by omega)] at HO
      go_wp2
      go_ret
      rw [hgood.out]
      exact ⟨some ⟨w.heap.size, 0, none⟩, N, by rw [mixS_len]; rfl, by rw [mixS_len]; exact HO.out, HB.out⟩
end Go.Proofs.Ytmenehgbhgehjaa
