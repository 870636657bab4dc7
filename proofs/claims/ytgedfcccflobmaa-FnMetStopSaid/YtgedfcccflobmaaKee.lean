/-
  Kept states in plain words; toIntSS, copyRows, Clone of rows, KeepState of both packages. No condition but that lengths stay in range.
-/
import Derived.Test.YtgedfcccflobmaaGri
import Derived.Test.YtgedfcccflobmaaSta
namespace Go.Proofs.Ytgedfcccflobmaa
open Go.RowKit
set_option linter.unusedVariables false
set_option linter.unusedSimpArgs false
attribute [local go_sem ↓] Go.wp_at_zero Go.wp_at_succ
theorem row_info : (Try.prog.info? 23).map (fun i => (i.zero, i.size, i.bytes)) = some (some (.slice none 0 0), 1, 24) := by kernel_rfl
theorem push_row {ops : Array Oper} {rest : List Oper} {o : Oper} {a : Act} {Q : Exit → Act → World → Prop} (w : World) (hgd : o.guard = none) (s x : Operand)
    (ho : o.op = .call { callee := .builtin .append, args := #[s, x], argTypes := #[24, 24] })
    (base n c H d : Nat) (A A2 : Option Addr) (m2 c2 : Nat) (vals : List Value) (hs : a.eval s = .slice A n c) (hx : a.eval x = .slice (some ⟨H, 0, none⟩) 1 d)
    (hown : w.ownsRow base 23 1 (.slice A n c) n vals) (hc1 : w.cell? ⟨H, 0, none⟩ = some (.slice A2 m2 c2)) (hn : n ≤ 10000000) (hb : base ≤ w.heap.size)
    (h : ∀ A' c' w', w'.ownsRow base 23 1 (.slice A' (n + 1) c') (n + 1) (vals ++ [.slice A2 m2 c2]) → w.grownBy w' (Value.slice A n c).ownBlock → wpList Try.prog ops Q rest (a.put o.dst (.slice A' (n + 1) c')) w') :
    wpList Try.prog ops Q (o :: rest) a w := by
  obtain ⟨i0, hi0, hz0, hz1, hz2⟩ := info_parts row_info
  refine wpList_append_own_at w hgd s x 24 ho base 23 i0 (.slice none 0 0) 1 24 Try.underlying24 hi0 hz0 hz1 hz2 rfl (by omega) _ n vals hs hown ⟨H, 0, none⟩ 1 d [.slice A2 m2 c2] hx rfl ?_ ?_ (by simp only [maxLen]; omega) (by omega) hb ?_
  · intro j u hj
    match j, hj with
    | 0, hj => simp at hj; subst hj; simpa [Addr.add] using hc1
  · intro u hu
    simp at hu
    subst hu
    rfl
  · intro v' w' ho' hg' _ hat
    obtain ⟨A', c', rfl⟩ := own_form ho'
    exact h A' c' w' ho' hg'
theorem make_row {ops : Array Oper} {rest : List Oper} {o : Oper} {a : Act} {Q : Exit → Act → World → Prop} (w : World) (hgd : o.guard = none) (l c : Operand)
    (ho : o.op = Op.makeSlice 24 l c) (n : Nat) (hl : a.eval l = .int .i64 (n : Int)) (hc : a.eval c = .int .i64 (n : Int)) (hn : n ≤ 1000000000) (base : Nat) (hb : base ≤ w.heap.size)
    (h : ∀ w', w'.ownsRow base 23 1 (.slice (some ⟨w.heap.size, 0, none⟩) n n) n (List.replicate n nilV) → Below w.heap.size w w' → wpList Try.prog ops Q rest (a.put o.dst (.slice (some ⟨w.heap.size, 0, none⟩) n n)) w') :
    wpList Try.prog ops Q (o :: rest) a w := by
  obtain ⟨i0, hi0, hz0, hz1, hz2⟩ := info_parts row_info
  refine wpList_make_full w hgd l c 24 ho base 23 i0 (.slice none 0 0) 1 Try.underlying24 hi0 hz0 hz1 .i64 .i64 _ _ n hl hc rfl rfl (by rw [hz2]; omega) (by simp only [maxLen]; omega) hb ?_
  intro w' h1 h2
  refine h w' ?_ (below_of_grown h2 (Nat.le_refl _) (by intro k hk; cases hk))
  have e : (madeCells (Value.slice none 0 0).cells (n * 1)).toList = List.replicate n nilV := by
    rw [Nat.mul_one]
    show (madeCells #[Value.slice none 0 0] n).toList = _
    rw [toList_madeCells_one]
    rfl
  rwa [e] at h1
theorem grow_setR {α : Type _} (us : List α) (m : Nat) (d v : α) : (us ++ List.replicate (m + 1) d).set us.length v = (us ++ [v]) ++ List.replicate m d := by
  rw [List.set_append_right _ _ (Nat.le_refl _), Nat.sub_self, List.replicate_succ]
  simp
theorem take_getDR {α : Type _} {ts : List α} {k : Nat} (d : α) (hk : k < ts.length) : ts.take k ++ [ts.getD k d] = ts.take (k + 1) := by
  rw [List.take_add_one, List.getElem?_eq_getElem hk, List.getD_eq_getElem?_getD, List.getElem?_eq_getElem hk]
  rfl
set_option maxHeartbeats 2000000 in
theorem toIntSS_own (A : Option Addr) (n c : Nat) (os : List (List Int)) (w : World) (h : GRd w A n os) (hn : n ≤ 1000000000) (hd : ∀ k, k < n → (os.getD k []).length ≤ 1000000000) :
    Calls Try.prog 65 #[.slice A n c] w (GivesG w os) := by
  have hl := h.1
  have H := Lib.hid h
  have HD := Lib.hid hd
  clear h hd
  go_enter Try.func65, Try.ntmps65
  go_wp2_with (at_make; refine make_row _ rfl _ _ rfl n rfl rfl hn w.heap.size (Nat.le_refl _) ?_; intro w1 ho1 hb1; replace ho1 := Lib.hid ho1)
  go_loopw [4] (fun i wr => ∃ (k : Nat) (vs : List Value), k ≤ n ∧ i = .int .i64 k ∧ vs.length = k ∧ wr.ownsRow w.heap.size 23 1 (.slice (some ⟨w.heap.size, 0, none⟩) n n) n (vs ++ List.replicate (n - k) nilV) ∧ (∀ i, i < k → wr.ownsRow (w.heap.size + 1) 3 1 (vs.getD i nilV) (os.getD i []).length (iv (os.getD i [])) ∧ ∀ g, (vs.getD i nilV).ownBlock = some g → g < wr.heap.size) ∧ (∀ i j, i < j → j < k → ∀ g g', (vs.getD i nilV).ownBlock = some g → (vs.getD j nilV).ownBlock = some g' → g < g') ∧ Below w.heap.size w wr) (fun i _ => n - (intOf i).toNat)
  case atStart => exact ⟨0, [], Nat.zero_le _, rfl, rfl, by simpa using ho1.out, (fun i hi => by omega), (fun i j _ hj => by omega), hb1⟩
  case round =>
    obtain ⟨k, vs, hk, rfl, hvl, hown, hsl, hinc, hb⟩ := hrel
    by_cases hlt : k < n
    · obtain ⟨b, off, A', c', e1, hbb, c1, hc1, hc2, hi⟩ := (H.out.below hb).spot hlt
      have hd := HD.out k hlt
      obtain ⟨xs, ht⟩ : ∃ xs, xs = os.getD k [] := ⟨_, rfl⟩
      rw [← ht] at c1 hc1 hi hd
      have HT := Lib.hid ht
      have HO := Lib.hid hown
      have HB := Lib.hid hb
      have HSL := Lib.hid hsl
      have HINC := Lib.hid hinc
      have HI := Lib.hid hi
      have hsz := hb.size
      have hgl := (World.ownsRow.lt hown w.heap.size rfl).2
      have q1 : (k : Int) < (n : Int) := by omega
      have q0 : (0 : Int) ≤ (k : Int) := by omega
      have e2 := Lib.hid e1
      clear ht hown hb hsl hinc hi e1 hb1 ho1
      rw [e2.out]
      go_wp2_with fail
      refine (toIntS_any A' xs.length c' xs _ HI.out hd).mono ?_
      rintro e w5 ⟨A5, c5, rfl, o5, b5⟩
      replace HO := Lib.hid (own_below HO.out b5)
      have hpl : (vs ++ List.replicate (n - k) nilV).length = n := by simp; omega
      have z0 : ∃ v, w5.cell? ⟨w.heap.size, k, none⟩ = some v := ⟨_, (HO.out.cellAt k (by omega)).trans (List.getElem?_eq_getElem (by omega))⟩
      obtain ⟨v0, z0⟩ := z0
      have f0 : w5.frozen? ⟨w.heap.size, k, none⟩ = false := HO.out.frozenAt _
      have O5 := Lib.hid o5
      have B5 := Lib.hid b5
      clear o5 b5 hpl
      go_wp2_with fail
      go_roundw
      case rel =>
        obtain ⟨s1, gg⟩ := HO.out.stored k (.slice A5 xs.length c5)
        have hv1 : vs.length = k := hvl
        have hgv := grow_setR vs (n - (k + 1)) nilV (.slice A5 xs.length c5)
        rw [hv1, show n - (k + 1) + 1 = n - k by omega] at hgv
        rw [hgv] at s1
        have hB2 := below_step HB.out B5.out HB.out.size
        have hz := B5.out.size
        have hat : ∀ i, i < k → (vs ++ [Value.slice A5 xs.length c5]).getD i nilV = vs.getD i nilV := fun i hi => by simp [List.getD_eq_getElem?_getD, List.getElem?_append_left (show i < vs.length by omega)]
        have hatk : (vs ++ [Value.slice A5 xs.length c5]).getD k nilV = .slice A5 xs.length c5 := by rw [← hv1]; simp [List.getD_eq_getElem?_getD]
        refine ⟨k + 1, vs ++ [.slice A5 xs.length c5], by omega, by go_num, by simp; omega, s1, fun i hi => ?_, fun i j hij hj g g' e1 e2 => ?_, hB2.grown gg hB2.size (by intro q hq; injection hq with hq; omega)⟩
        · by_cases hik : i < k
          · rw [hat i hik]
            obtain ⟨h1, h2⟩ := HSL.out i hik
            exact ⟨(own_below h1 B5.out).kept gg (by rcases hu : (vs.getD i nilV).ownBlock with _ | q; exact .inl rfl; exact .inr fun e => by injection e with e; have := (h1.lt q hu).1; omega), fun g hg => Nat.lt_of_lt_of_le (h2 g hg) (Nat.le_trans hz gg.size)⟩
          · obtain rfl : i = k := by omega
            rw [hatk, ← HT.out]
            exact ⟨(own_base O5.out (by omega)).kept gg (by rcases hu : (Value.slice A5 xs.length c5).ownBlock with _ | q; exact .inl rfl; exact .inr fun e => by injection e with e; have := (O5.out.lt q hu).1; omega), fun g hg => Nat.lt_of_lt_of_le (O5.out.lt g hg).2 gg.size⟩
        · rw [hat i (by omega)] at e1
          by_cases hjk : j < k
          · rw [hat j hjk] at e2
            exact HINC.out i j hij hjk g g' e1 e2
          · obtain rfl : j = k := by omega
            rw [hatk] at e2
            have := (HSL.out i (by omega)).2 g e1
            have := (O5.out.lt g' e2).1
            omega
      case measure => simp [intOf]; omega
    · obtain rfl : k = n := by omega
      go_wp2
      go_ret
      rw [Nat.sub_self, List.replicate_zero, List.append_nil] at hown
      subst hl
      exact ⟨_, _, vs, rfl, ⟨hown, hvl, fun i hi => own_base (hsl i hi).1 (Nat.le_succ _), fun g hg => (hown.lt g hg).2, fun i hi g hg => (hsl i hi).2 g hg, hinc⟩, hb⟩
set_option maxHeartbeats 2000000 in
theorem copyRows_any (A : Option Addr) (n c : Nat) (os : List (List Int)) (w : World) (h : GRd w A n os) (hn : n ≤ 2000000) (hd : ∀ k, k < n → (os.getD k []).length ≤ 2000000) :
    Calls Try.prog 75 #[.slice A n c] w (GivesG w os) := by
  have hl := h.1
  have H := Lib.hid h
  have HD := Lib.hid hd
  clear h hd
  go_enter Try.func75, Try.ntmps75
  go_wp2_with fail
  go_loopw [3, 8] (fun out i wr => ∃ (k : Nat) (A' : Option Addr) (c' : Nat) (vs : List Value), k ≤ n ∧ i = .int .i64 k ∧ out = .slice A' k c' ∧ GOwn wr w.heap.size wr.heap.size A' c' (os.take k) vs ∧ Below w.heap.size w wr) (fun _ i _ => n - (intOf i).toNat)
  case atStart => exact ⟨0, none, 0, [], Nat.zero_le _, rfl, rfl, gown_nil _ _ _, Below.refl _ _⟩
  case round =>
    obtain ⟨k, A', c', vs, hk, rfl, rfl, hown, hb⟩ := hrel
    by_cases hlt : k < n
    · obtain ⟨b, off, X, cx, e1, hbb, c1, hc1, hc2, hi⟩ := (H.out.below hb).spot hlt
      have hd := HD.out k hlt
      have htk : os.take (k + 1) = os.take k ++ [os.getD k []] := (take_getDR [] (show k < os.length by omega)).symm
      have htl : (os.take k).length = k := by rw [List.length_take]; omega
      have hsz := hb.size
      generalize os.getD k [] = xs at c1 hc1 hi hd htk
      have HO := Lib.hid hown
      have HB := Lib.hid hb
      have HI := Lib.hid hi
      have HTK := Lib.hid htk
      have HTL := Lib.hid htl
      have q1 : (k : Int) < (n : Int) := by omega
      have q0 : (0 : Int) ≤ (k : Int) := by omega
      have e2 := Lib.hid e1
      have HN := Lib.hid hc2
      clear hown hb hi e1 htk htl hc2
      rw [e2.out]
      go_wp2_with (first | (at_builtin; refine push_list _ rfl _ _ rfl wr.heap.size 0 0 xs.length cx wr.heap.size none X [] xs rfl rfl (World.ownsRow_nil _ _ _ _) HI.out HN.out (by omega) (Nat.le_refl _) ?_; intro A5 c5 w5 o5 b5; rw [List.nil_append, Nat.zero_add] at o5; rw [Nat.zero_add]; have O5 := Lib.hid o5; have HO5 := Lib.hid (HO.out.below b5); have HB5 := Lib.hid (below_step HB.out b5 hsz); have hz5 := b5.size; clear o5 b5) | (at_builtin; refine push_row _ rfl _ _ rfl w.heap.size k c' w5.heap.size 1 A' A5 xs.length c5 vs rfl rfl (by have := HO5.out.outer.alloc (.cells #[.slice A5 xs.length c5] 23); rw [HTL.out] at this; exact this) (cell_new _ _ _ 0) (by omega) (by simp; omega) ?_; intro A6 c6 w6 o6 g6; have hsn := Lib.hid (GOwn.snoc (HO5.out.allocP (.cells #[.slice A5 xs.length c5] 23)) xs (.slice A5 xs.length c5) (by rw [HTL.out]; exact o6) (by rw [HTL.out]; exact g6) (own_base (O5.out.alloc _) hsz) (fun g hg => (O5.out.lt g hg).1) (by simp; omega)); have hb6 := Lib.hid ((HB5.out.alloc HB5.out.size (.cells #[.slice A5 xs.length c5] 23)).grown g6 (Nat.le_trans HB5.out.size (size_alloc_le _ _)) (fun q hq => by have := HO5.out.outer; rw [HTL.out] at this; exact (this.lt q hq).1)); clear o6 g6))
      go_roundw
      case rel => exact ⟨k + 1, A6, c6, vs ++ [.slice A5 xs.length c5], by omega, by go_num, rfl, by rw [HTK.out]; exact hsn.out, hb6.out⟩
      case measure => simp [intOf]; omega
    · obtain rfl : k = n := by omega
      go_wp2
      go_ret
      rw [List.take_of_length_le (by omega)] at hown
      subst hl
      exact ⟨A', c', vs, rfl, hown, hb⟩
def keepR (os : List (List Int)) (st : List Int) (sz : Int) : List (List Int) := if decide (os.length ≤ 16) && (stB st && (inB sz 1 16 && os.all stB)) then (os ++ [st]).drop (os.length + 1 - sz.toNat) else []
end Go.Proofs.Ytgedfcccflobmaa
