/-
  toPatchS and eqPatchS: lists of patches copied and compared. No condition but that lengths stay in range.
-/
import Derived.Test.YtlbalepcjamhcaaPat
namespace Go.Proofs.Ytlbalepcjamhcaa
open Go.RowKit
set_option linter.unusedVariables false
set_option linter.unusedSimpArgs false
attribute [local go_sem ↓] Go.wp_at_zero Go.wp_at_succ
theorem pbox_new (w : World) (E : TypeId) (v0 v1 : Value) : (w.alloc (.cells #[v0, v1] E)).ownsRow w.heap.size E 2 (.slice (some ⟨w.heap.size, 0, none⟩) 1 1) 1 [v0, v1] :=
  World.ownsRow_lit w #[v0, v1] 1 (Nat.le_refl _) (by simp [maxLen]) rfl
theorem own_pbox {w : World} {lo b : Nat} {E : TypeId} {v0 v1 : Value} (h : w.ownsRow lo E 2 (.slice (some ⟨b, 0, none⟩) 1 1) 1 [v0, v1]) :
    (w.cell? ⟨b, 0, none⟩ = some v0 ∧ w.cell? ⟨b, 1, none⟩ = some v1) ∧ (w.frozen? ⟨b, 0, none⟩ = false ∧ w.frozen? ⟨b, 1, none⟩ = false) ∧ b < w.heap.size :=
  ⟨⟨h.cellAt 0 (by simp), h.cellAt 1 (by simp)⟩, ⟨h.frozenAt 0, h.frozenAt 1⟩, (h.lt b rfl).2⟩
set_option maxHeartbeats 2000000 in
theorem toPatch_any (x : Int) (A : Option Addr) (c : Nat) (xs : List Int) (w : World) (h : Ints w w.heap.size A xs.length xs) (hn : xs.length ≤ 1000000000) :
    Calls Try.prog 33 #[.agg #[.int .i64 x, .slice A xs.length c]] w fun e w' => ∃ A' c', e = .returned (.agg #[.int .i64 x, .slice A' xs.length c']) ∧ w'.ownsRow w.heap.size 3 1 (.slice A' xs.length c') xs.length (iv xs) ∧ Below w.heap.size w w' := by
  obtain ⟨W, hW⟩ : ∃ W, W = (((w.alloc (.cells #[.int .i64 x, .slice A xs.length c] 49)).alloc (.cells #[.int .i64 0, .slice none 0 0] 45)).alloc (.cells #[.int .i64 x, .slice none 0 0] 45)) := ⟨_, rfl⟩
  have hs : W.heap.size = w.heap.size + 3 := by rw [hW]; simp
  have hB0 : Below w.heap.size w W := by rw [hW]; go_grown
  have h3 : W.ownsRow (w.heap.size + 2) 45 2 (.slice (some ⟨w.heap.size + 2, 0, none⟩) 1 1) 1 [.int .i64 x, .slice none 0 0] := by
    have := pbox_new ((w.alloc (.cells #[.int .i64 x, .slice A xs.length c] 49)).alloc (.cells #[.int .i64 0, .slice none 0 0] 45)) 45 (.int .i64 x) (.slice none 0 0)
    rw [← hW] at this
    simpa using this
  have h2 : W.ownsRow (w.heap.size + 1) 45 2 (.slice (some ⟨w.heap.size + 1, 0, none⟩) 1 1) 1 [.int .i64 0, .slice none 0 0] := by
    have := (pbox_new (w.alloc (.cells #[.int .i64 x, .slice A xs.length c] 49)) 45 (.int .i64 0) (.slice none 0 0)).alloc (.cells #[.int .i64 x, .slice none 0 0] 45)
    rw [← hW] at this
    simpa using this
  have HI := Lib.hid ((h.below hB0).more (by omega) : Ints W W.heap.size A xs.length xs)
  have HB := Lib.hid hB0
  have H3 := Lib.hid h3
  have H2 := Lib.hid h2
  have HW := Lib.hid hW
  have HS := Lib.hid hs
  clear h h3 h2 hW hB0 hs
  go_enter Try.func33, Try.ntmps33
  go_wp2_with fail
  rw [← HW.out]
  refine (toIntS_any _ _ _ xs _ HI.out hn).mono ?_
  rintro e w4 ⟨A', c', rfl, o4, b4⟩
  have X3 := Lib.hid (own_below H3.out b4)
  have X2 := Lib.hid (own_below H2.out b4)
  have HB4 := Lib.hid (below_step HB.out b4 HB.out.size)
  have HO := Lib.hid o4
  clear o4 b4
  obtain ⟨⟨p0, p1⟩, ⟨f0, f1⟩, pl⟩ := own_pbox X3.out
  obtain ⟨⟨r0, r1⟩, ⟨g0, g1⟩, rl⟩ := own_pbox X2.out
  go_wp2_with fail
  obtain ⟨s3, k3⟩ := X3.out.stored 1 (.slice A' xs.length c')
  have X2' := X2.out.kept k3 (.inr (by simp [Value.ownBlock]))
  obtain ⟨t0, k0⟩ := X2'.stored 0 (.int .i64 x)
  obtain ⟨t1, k1⟩ := t0.stored 1 (.slice A' xs.length c')
  refine bodyPost_ret (v := .agg #[.int .i64 x, .slice A' xs.length c']) (by simp [results, Try.results33, go_sem, p0, p1, r0, r1]) rfl ?_
  have hlo : ∀ k, (Value.slice A' xs.length c').ownBlock = some k → w.heap.size + 3 ≤ k := fun k hk => by have := (HO.out.lt k hk).1; have := HS.out; omega
  refine ⟨A', c', rfl, own_base (((HO.out.kept k3 (.inr fun e => by have := hlo _ e; omega)).kept k0 (.inr fun e => by have := hlo _ e; omega)).kept k1 (.inr fun e => by have := hlo _ e; omega)) HB.out.size, ?_⟩
  have q3 := HB4.out.grown k3 HB4.out.size (by intro k hk; injection hk with hk; omega)
  have q0 := q3.grown k0 q3.size (by intro k hk; injection hk with hk; omega)
  exact q0.grown k1 q0.size (by intro k hk; injection hk with hk; omega)
theorem grow_set {α : Type _} (us : List α) (m : Nat) (d v : α) : (us ++ List.replicate (m + 1) d).set us.length v = (us ++ [v]) ++ List.replicate m d := by
  rw [List.set_append_right _ _ (Nat.le_refl _), Nat.sub_self, List.replicate_succ]
  simp
theorem take_getD {α : Type _} {ts : List α} {k : Nat} (d : α) (hk : k < ts.length) : ts.take k ++ [ts.getD k d] = ts.take (k + 1) := by
  rw [List.take_add_one, List.getElem?_eq_getElem hk, List.getD_eq_getElem?_getD, List.getElem?_eq_getElem hk]
  rfl
theorem patch_info : (Try.prog.info? 45).map (fun i => (i.zero, i.size, i.bytes)) = some (some (.agg #[.int .i64 0, .slice none 0 0]), 2, 32) := by kernel_rfl
theorem pv_made (n : Nat) : (madeCells #[Value.int .i64 0, .slice none 0 0] (n * 2)).toList = pv (List.replicate n (0, [])) (List.replicate n nilV) := by
  apply List.ext_getElem?
  intro i
  have hl := pv_len (List.replicate n ((0, []) : TP)) (List.replicate n nilV) (by simp)
  rw [List.length_replicate] at hl
  by_cases hi : i < n * 2
  · have hk : i / 2 < (List.replicate n ((0, []) : TP)).length := by rw [List.length_replicate]; omega
    obtain ⟨a, b⟩ := pv_get (List.replicate n (0, [])) (List.replicate n nilV) (i / 2) (by simp) hk
    have hm : (madeCells #[Value.int .i64 0, .slice none 0 0] (n * 2)).toList[i]? = some ((#[Value.int .i64 0, .slice none 0 0] : Array Value)[i % 2]!) := by
      simp [madeCells, hi]
    rw [hm]
    have hr : i = i / 2 * 2 ∨ i = i / 2 * 2 + 1 := by omega
    rcases hr with h | h
    · rw [show i % 2 = 0 by omega]
      conv => rhs; rw [h]
      rw [a]
      simp [List.getD_eq_getElem?_getD, show i / 2 < n by omega]
    · rw [show i % 2 = 1 by omega]
      conv => rhs; rw [h]
      rw [b]
      simp [List.getD_eq_getElem?_getD, show i / 2 < n by omega, nilV]
  · rw [List.getElem?_eq_none (by simp [size_madeCells]; omega), List.getElem?_eq_none (by omega)]
theorem make_patch {ops : Array Oper} {rest : List Oper} {o : Oper} {a : Act} {Q : Exit → Act → World → Prop} (w : World) (hgd : o.guard = none) (l c : Operand)
    (ho : o.op = Op.makeSlice 25 l c) (n : Nat) (hl : a.eval l = .int .i64 (n : Int)) (hc : a.eval c = .int .i64 (n : Int)) (hn : n ≤ 1000000000) (base : Nat) (hb : base ≤ w.heap.size)
    (h : ∀ w', w'.ownsRow base 45 2 (.slice (some ⟨w.heap.size, 0, none⟩) n n) n (pv (List.replicate n (0, [])) (List.replicate n nilV)) → Below w.heap.size w w' → wpList Try.prog ops Q rest (a.put o.dst (.slice (some ⟨w.heap.size, 0, none⟩) n n)) w') :
    wpList Try.prog ops Q (o :: rest) a w := by
  obtain ⟨i0, hi0, hz0, hz1, hz2⟩ := info_parts patch_info
  refine wpList_make_full w hgd l c 25 ho base 45 i0 (.agg #[.int .i64 0, .slice none 0 0]) 2 Try.underlying25 hi0 hz0 hz1 .i64 .i64 _ _ n hl hc rfl rfl (by rw [hz2]; omega) (by simp only [maxLen]; omega) hb ?_
  intro w' h1 h2
  refine h w' ?_ (below_of_grown h2 (Nat.le_refl _) (by intro k hk; cases hk))
  rwa [show (Value.agg #[Value.int .i64 0, .slice none 0 0]).cells = #[Value.int .i64 0, .slice none 0 0] from rfl, pv_made] at h1
set_option maxHeartbeats 2000000 in
theorem toPatchS_any (A : Option Addr) (n c : Nat) (ts : List TP) (w : World) (h : PRd w A n ts) (hn : n ≤ 1000000000) (hd : ∀ k, k < n → (ts.getD k (0, [])).2.length ≤ 1000000000) :
    Calls Try.prog 13 #[.slice A n c] w fun e w' => ∃ A' c', e = .returned (.slice A' n c') ∧ PRd w' A' n ts ∧ Below w.heap.size w w' := by
  have hl := h.1
  have H := Lib.hid h
  have HD := Lib.hid hd
  clear h hd
  go_enter Try.func13, Try.ntmps13
  go_wp2_with (at_make; refine make_patch _ rfl _ _ rfl n rfl rfl hn w.heap.size (Nat.le_refl _) ?_; intro w1 ho1 hb1; replace ho1 := Lib.hid ho1)
  go_loopw [4] (fun i wr => ∃ (k : Nat) (vs : List Value), k ≤ n ∧ i = .int .i64 k ∧ vs.length = k ∧ wr.ownsRow w.heap.size 45 2 (.slice (some ⟨w.heap.size, 0, none⟩) n n) n (pv (ts.take k ++ List.replicate (n - k) (0, [])) (vs ++ List.replicate (n - k) nilV)) ∧ (∀ i, i < k → Slc wr (w.heap.size + 1) (vs.getD i nilV) (ts.getD i (0, [])).2) ∧ Below w.heap.size w wr) (fun i _ => n - (intOf i).toNat)
  case atStart => exact ⟨0, [], Nat.zero_le _, rfl, rfl, by simpa using ho1.out, fun i hi => by omega, hb1⟩
  case round =>
    obtain ⟨k, vs, hk, rfl, hvl, hown, hsl, hb⟩ := hrel
    by_cases hlt : k < n
    · obtain ⟨b, off, A', c', e1, hbb, c0, c1, hc1, hc2, hi⟩ := (H.out.below hb).spot hlt
      have hd := HD.out k hlt
      have hlen1 : (ts.take k).length = k := by rw [List.length_take]; omega
      have hgs := grow_set (ts.take k) (n - (k + 1)) ((0, []) : TP) (ts.getD k (0, []))
      rw [hlen1, take_getD (0, []) (show k < ts.length by omega), show n - (k + 1) + 1 = n - k by omega] at hgs
      obtain ⟨t, ht⟩ : ∃ t, t = ts.getD k (0, []) := ⟨_, rfl⟩
      rw [← ht] at c0 c1 hc1 hi hd hgs
      obtain ⟨x, xs⟩ := t
      simp only at c0 c1 hc1 hi hd
      have HT := Lib.hid ht
      have HGS := Lib.hid hgs
      have HO := Lib.hid hown
      have HB := Lib.hid hb
      have HSL := Lib.hid hsl
      have HI := Lib.hid hi
      have hsz := hb.size
      have hgl := (World.ownsRow.lt hown w.heap.size rfl).2
      have q1 : (k : Int) < (n : Int) := by omega
      have q0 : (0 : Int) ≤ (k : Int) := by omega
      have e2 := Lib.hid e1
      clear ht hgs hown hb hsl hi e1 hb1 ho1
      rw [e2.out]
      go_wp2_with fail
      refine (toPatch_any x A' c' xs _ HI.out hd).mono ?_
      rintro e w5 ⟨A5, c5, rfl, o5, b5⟩
      replace HO := Lib.hid (own_below HO.out b5)
      have hpl : (pv (ts.take k ++ List.replicate (n - k) ((0, []) : TP)) (vs ++ List.replicate (n - k) nilV)).length = n * 2 := HO.out.1
      have z0 : ∃ v, w5.cell? ⟨w.heap.size, k * 2, none⟩ = some v := ⟨_, (HO.out.cellAt (k * 2) (by omega)).trans (List.getElem?_eq_getElem (by omega))⟩
      have z1 : ∃ v, w5.cell? ⟨w.heap.size, k * 2 + 1, none⟩ = some v := ⟨_, (HO.out.cellAt (k * 2 + 1) (by omega)).trans (List.getElem?_eq_getElem (by omega))⟩
      obtain ⟨v0, z0⟩ := z0
      obtain ⟨v1, z1⟩ := z1
      have f0 : w5.frozen? ⟨w.heap.size, k * 2, none⟩ = false := HO.out.frozenAt _
      have f1 : w5.frozen? ⟨w.heap.size, k * 2 + 1, none⟩ = false := HO.out.frozenAt _
      have O5 := Lib.hid o5
      have B5 := Lib.hid b5
      clear o5 b5 hpl
      go_wp2_with fail
      go_roundw
      case rel =>
        obtain ⟨s0, g0⟩ := HO.out.stored (k * 2) (.int .i64 x)
        obtain ⟨s1, g1⟩ := s0.stored (k * 2 + 1) (.slice A5 xs.length c5)
        have gg := g0.trans g1
        have hv1 : vs.length = k := hvl
        rw [pv_set _ _ k x xs (.slice A5 xs.length c5) (by simp; omega) (by simp; omega), HGS.out] at s1
        have hgv := grow_set vs (n - (k + 1)) nilV (.slice A5 xs.length c5)
        rw [hv1, show n - (k + 1) + 1 = n - k by omega] at hgv
        rw [hgv] at s1
        have hB2 := below_step HB.out B5.out HB.out.size
        refine ⟨k + 1, vs ++ [.slice A5 xs.length c5], by omega, by go_num, by simp; omega, s1, fun i hi => ?_, hB2.grown gg hB2.size (by intro q hq; injection hq with hq; omega)⟩
        by_cases hik : i < k
        · rw [show (vs ++ [Value.slice A5 xs.length c5]).getD i nilV = vs.getD i nilV by simp [List.getD_eq_getElem?_getD, List.getElem?_append_left (show i < vs.length by omega)]]
          exact ((HSL.out i hik).below B5.out).far gg (by omega)
        · obtain rfl : i = k := by omega
          rw [show (vs ++ [Value.slice A5 xs.length c5]).getD i nilV = .slice A5 xs.length c5 by rw [← hv1]; simp [List.getD_eq_getElem?_getD], ← HT.out]
          refine Slc.far (w := w5) ⟨A5, c5, rfl, own_cap O5.out, ?_, own_ints O5.out, ?_⟩ gg (by omega)
          · rintro rfl
            rcases own_block O5.out with ⟨_, _, h⟩ | ⟨g, e, _⟩
            · exact h
            · cases e
          · intro ad e
            rcases own_block O5.out with ⟨h, _⟩ | ⟨g, e3, hg, _⟩
            · rw [h] at e; cases e
            · rw [e3] at e; injection e with e; subst e; simp only; omega
      case measure => simp [intOf]; omega
    · obtain rfl : k = n := by omega
      go_wp2
      go_ret
      rw [Nat.sub_self, List.replicate_zero, List.append_nil, List.replicate_zero, List.append_nil, List.take_of_length_le (by omega)] at hown
      exact ⟨_, _, rfl, ⟨hl, vs, hvl, Reads.of_own hown, fun i hi => (hsl i hi).mono (Nat.zero_le _)⟩, hb⟩
set_option maxHeartbeats 1000000 in
theorem eqPatch_same (x : Int) (A B : Option Addr) (n c d : Nat) (xs : List Int) (w : World) (ha : Ints w w.heap.size A n xs) (hb : Ints w w.heap.size B n xs) (hn : n ≤ 1000000000) :
    Calls Try.prog 34 #[.agg #[.int .i64 x, .slice A n c], .agg #[.int .i64 x, .slice B n d]] w fun e w' => e = .returned (.bool true) ∧ Below w.heap.size w w' := by
  have hx : (x != x) = false := by simp
  have hB : Below w.heap.size w ((w.alloc (.cells #[.int .i64 x, .slice A n c] 45)).alloc (.cells #[.int .i64 x, .slice B n d] 45)) := by go_grown
  have HA := Lib.hid ((ha.below hB).more hB.size)
  have HB := Lib.hid ((hb.below hB).more hB.size)
  have HBB := Lib.hid hB
  clear ha hb hB
  go_enter Try.func34, Try.ntmps34
  go_wp2_with (go_at_call 21; refine (eqIntS_same _ _ _ _ _ xs _ HA.out HB.out (by omega)).mono ?_; rintro e w2 ⟨rfl, b⟩)
  go_ret
  exact ⟨rfl, below_step HBB.out b HBB.out.size⟩
set_option maxHeartbeats 4000000 in
theorem eqPatchS_same (A B : Option Addr) (n c d : Nat) (ts : List TP) (w : World) (ha : PRd w A n ts) (hb : PRd w B n ts) (hn : n ≤ 1000000000) (hd : ∀ k, k < n → (ts.getD k (0, [])).2.length ≤ 1000000000) :
    Calls Try.prog 15 #[.slice A n c, .slice B n d] w fun e w' => e = .returned (.bool true) ∧ Below w.heap.size w w' := by
  have hnn : (((n : Int) != (n : Int)) = false) := by simp
  have HA := Lib.hid ha
  have HB := Lib.hid hb
  have HD := Lib.hid hd
  clear ha hb hd
  go_enter Try.func15, Try.ntmps15
  go_wp2
  go_loopw [5] (fun i wr => ∃ k : Nat, k ≤ n ∧ i = .int .i64 k ∧ Below w.heap.size w wr) (fun i _ => n - (intOf i).toNat)
  case atStart => exact ⟨0, Nat.zero_le _, rfl, Below.refl _ _⟩
  case round =>
    obtain ⟨k, hk, rfl, hbel⟩ := hrel
    by_cases hlt : k < n
    · obtain ⟨b, off, A1, c1, e1, hb1, h0, h1, -, -, i1⟩ := (HA.out.below hbel).spot hlt
      obtain ⟨b2, off2, A2, c2, e2, hb2, g0, g1, -, -, i2⟩ := (HB.out.below hbel).spot hlt
      have hd := HD.out k hlt
      generalize ts.getD k (0, []) = t at h0 h1 g0 g1 i1 i2 hd
      obtain ⟨x, xs⟩ := t
      simp only at h0 h1 g0 g1 i1 i2 hd
      have q0 : (0 : Int) ≤ (k : Int) := by omega
      have q1 : (k : Int) < (n : Int) := by omega
      have hz := hbel.size
      have hto := Lib.hid (eqPatch_same x A1 A2 xs.length c1 c2 xs wr.drew i1 i2 hd)
      have HBEL := Lib.hid hbel
      have E1 := Lib.hid e1
      have E2 := Lib.hid e2
      clear hbel e1 e2 i1 i2
      rw [E1.out, E2.out]
      go_wp2_with fail
      go_region_held3 (fun w' => w'.cell? ⟨b, off + k * 2, none⟩ = some (.int .i64 x) ∧ w'.cell? ⟨b, off + k * 2 + 1, none⟩ = some (.slice A1 xs.length c1) ∧ w'.cell? ⟨b2, off2 + k * 2, none⟩ = some (.int .i64 x) ∧ w'.cell? ⟨b2, off2 + k * 2 + 1, none⟩ = some (.slice A2 xs.length c2)) (first | exact ⟨h0, h1, g0, g1⟩ | exact ⟨(b5.cell hb1).trans h0, (b5.cell hb1).trans h1, (b5.cell hb2).trans g0, (b5.cell hb2).trans g1⟩) ((go_at_call 34; refine (hto.out).mono ?_; rintro e w5 ⟨rfl, b5⟩))
      go_wp2_with fail
      go_roundw
      case rel => exact ⟨k + 1, by omega, by go_num, below_step HBEL.out.drew b5 hz⟩
      case measure => simp [intOf]; omega
    · go_wp2
      go_ret
      exact ⟨rfl, hbel⟩
end Go.Proofs.Ytlbalepcjamhcaa
