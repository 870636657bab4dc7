/-
  Rows of numbers: read, owned, measured, copied, compared, marked. No condition but that lengths stay in range.
-/
import Derived.Test.YtgedfcccflobmaaPat
import Derived.Test.YtgedfcccflobmaaZone
namespace Go.Proofs.Ytgedfcccflobmaa
open Go.RowKit
set_option linter.unusedVariables false
set_option linter.unusedSimpArgs false
attribute [local go_sem ↓] Go.wp_at_zero Go.wp_at_succ
/-- Rows to be read. -/
def GRd (w : World) (A : Option Addr) (n : Nat) (os : List (List Int)) : Prop :=
  os.length = n ∧ ∃ vs : List Value, vs.length = n ∧ Reads w w.heap.size 1 A n vs ∧ ∀ i, i < n → Slc w 0 (vs.getD i nilV) (os.getD i [])
theorem GRd.below {w w' : World} {A : Option Addr} {n : Nat} {os : List (List Int)} (h : GRd w A n os) (b : Below w.heap.size w w') : GRd w' A n os := by
  obtain ⟨h1, vs, h2, h3, h4⟩ := h
  exact ⟨h1, vs, h2, (h3.below b).more b.size, fun i hi => (h4 i hi).below b⟩
theorem GRd.spot {w : World} {A : Option Addr} {n k : Nat} {os : List (List Int)} (h : GRd w A n os) (hk : k < n) :
    ∃ b off A' c, A = some ⟨b, off, none⟩ ∧ b < w.heap.size ∧ w.cell? ⟨b, off + k, none⟩ = some (.slice A' (os.getD k []).length c) ∧
      (os.getD k []).length ≤ c ∧ (A' = none → c = 0) ∧ Ints w w.heap.size A' (os.getD k []).length (os.getD k []) := by
  obtain ⟨h1, vs, h2, h3, h4⟩ := h
  obtain ⟨⟨b, off, spot⟩, rfl, hb, hc⟩ := h3.2 (by omega)
  have g : ∀ i, i < n → vs[i]? = some (vs.getD i nilV) := fun i hi => by
    rw [List.getD_eq_getElem?_getD, List.getElem?_eq_getElem (show i < vs.length by omega)]; rfl
  have c0 := hc 0 _ (g 0 (by omega))
  have hs : spot = none := by simpa [Addr.add] using World.cell?_spot c0
  subst hs
  have ha : ∀ j, ((⟨b, off, none⟩ : Addr).add j) = ⟨b, off + j, none⟩ := by intro j; unfold Addr.add; split <;> simp_all
  obtain ⟨A', c, e, q1, q2, q3, -⟩ := h4 k hk
  have k1 := hc k _ (g k hk)
  rw [ha, e] at k1
  exact ⟨b, off, A', c, rfl, hb, k1, q1, q2, q3⟩
theorem GRd.cap {w : World} {A : Option Addr} {n : Nat} {os : List (List Int)} (h : GRd w A n os) : os.length = n := h.1
theorem grd_nil (w : World) : GRd w none 0 [] := ⟨rfl, [], rfl, Reads.none_, fun i hi => by omega⟩
def sumR (os : List (List Int)) : Nat := (os.map List.length).sum
theorem sumR_take {os : List (List Int)} {k : Nat} (hk : k < os.length) : sumR (os.take (k + 1)) = sumR (os.take k) + (os.getD k []).length := by
  unfold sumR
  rw [List.take_add_one, List.getElem?_eq_getElem hk, List.getD_eq_getElem?_getD, List.getElem?_eq_getElem hk, List.map_append, List.sum_append]
  simp
theorem sumR_le (os : List (List Int)) (k : Nat) : sumR (os.take k) ≤ sumR os := by
  conv => rhs; rw [← List.take_append_drop k os]
  unfold sumR
  rw [List.map_append, List.sum_append]
  omega
theorem sumR_get {os : List (List Int)} {k : Nat} (hk : k < os.length) : (os.getD k []).length ≤ sumR os := by
  have := sumR_take hk
  have := sumR_le os (k + 1)
  omega
/-- Rows of the call's own: the outer row and each inner row, blocks below hi. -/
structure GOwn (w : World) (base hi : Nat) (A : Option Addr) (c : Nat) (os : List (List Int)) (vs : List Value) : Prop where
  outer : w.ownsRow base 23 1 (.slice A os.length c) os.length vs
  vlen : vs.length = os.length
  inner : ∀ i, i < os.length → w.ownsRow base 3 1 (vs.getD i nilV) (os.getD i []).length (iv (os.getD i []))
  olt : ∀ g, (Value.slice A os.length c).ownBlock = some g → g < hi
  ilt : ∀ i, i < os.length → ∀ g, (vs.getD i nilV).ownBlock = some g → g < hi
  inc : ∀ i j, i < j → j < os.length → ∀ g g', (vs.getD i nilV).ownBlock = some g → (vs.getD j nilV).ownBlock = some g' → g < g'
section
variable {w w' : World} {base hi c : Nat} {A : Option Addr} {os : List (List Int)} {vs : List Value}
theorem GOwn.under {B : Nat} (h : GOwn w base hi A c os vs) (hb : Below B w w') (hB : hi ≤ B) : GOwn w' base hi A c os vs :=
  ⟨own_under h.outer hb fun g hg => Nat.lt_of_lt_of_le (h.olt g hg) hB, h.vlen, fun i hi' => own_under (h.inner i hi') hb fun g hg => Nat.lt_of_lt_of_le (h.ilt i hi' g hg) hB, h.olt, h.ilt, h.inc⟩
theorem GOwn.below (h : GOwn w base hi A c os vs) (hb : Below w.heap.size w w') : GOwn w' base hi A c os vs :=
  ⟨own_below h.outer hb, h.vlen, fun i hi' => own_below (h.inner i hi') hb, h.olt, h.ilt, h.inc⟩
theorem GOwn.allocP (h : GOwn w base hi A c os vs) (o : Obj) : GOwn (w.alloc o) base hi A c os vs := ⟨h.outer.alloc o, h.vlen, fun i hi => (h.inner i hi).alloc o, h.olt, h.ilt, h.inc⟩
theorem GOwn.up {hi' : Nat} (h : GOwn w base hi A c os vs) (hh : hi ≤ hi') : GOwn w base hi' A c os vs :=
  ⟨h.outer, h.vlen, h.inner, fun g hg => Nat.lt_of_lt_of_le (h.olt g hg) hh, fun i hi' g hg => Nat.lt_of_lt_of_le (h.ilt i hi' g hg) hh, h.inc⟩
theorem GOwn.basis {b : Nat} (h : GOwn w base hi A c os vs) (hb : b ≤ base) : GOwn w b hi A c os vs := ⟨own_base h.outer hb, h.vlen, fun i hi => own_base (h.inner i hi) hb, h.olt, h.ilt, h.inc⟩
theorem GOwn.snoc {c' : Nat} {A' : Option Addr} (h : GOwn w base hi A c os vs) (xs : List Int) (v : Value)
    (hout : w'.ownsRow base 23 1 (.slice A' (os.length + 1) c') (os.length + 1) (vs ++ [v])) (hg : w.grownBy w' (Value.slice A os.length c).ownBlock)
    (hin : w.ownsRow base 3 1 v xs.length (iv xs)) (hlo : ∀ g, v.ownBlock = some g → hi ≤ g) (hhi : hi ≤ w.heap.size) : GOwn w' base w'.heap.size A' c' (os ++ [xs]) (vs ++ [v]) := by
  have hz := hg.size
  have keep : ∀ {u : Value} {ys : List Int} {n : Nat}, w.ownsRow base 3 1 u n (iv ys) → w'.ownsRow base 3 1 u n (iv ys) := fun {u ys n} ho => by
    refine ho.kept hg ?_
    rcases hu : u.ownBlock with _ | q
    · exact .inl rfl
    · refine .inr fun e => own_sep ho h.outer (by decide) hu e.symm
  have hl1 : (os ++ [xs]).length = os.length + 1 := by simp
  refine ⟨?_, by simp [h.vlen], fun i hi => ?_, fun g hg' => ?_, fun i hi g hg' => ?_, fun i j hij hj g g' e1 e2 => ?_⟩
  · rw [hl1]; exact hout
  · rw [hl1] at hi
    rw [getD_app _ _ _ _ (by rw [h.vlen]; exact hi), getD_app _ _ _ _ hi, h.vlen]
    split
    · rename_i hi2; exact keep (h.inner i hi2)
    · exact keep hin
  · rw [hl1] at hg'
    exact (hout.lt g hg').2
  · rw [hl1] at hi
    rw [getD_app _ _ _ _ (by rw [h.vlen]; exact hi), h.vlen] at hg'
    split at hg'
    · rename_i hi2; have := h.ilt i hi2 g hg'; omega
    · have := (hin.lt g hg').2; omega
  · rw [hl1] at hj
    rw [getD_app _ _ _ _ (by rw [h.vlen]; omega), h.vlen, if_pos (by omega)] at e1
    rw [getD_app _ _ _ _ (by rw [h.vlen]; exact hj), h.vlen] at e2
    split at e2
    · rename_i hj2; exact h.inc i j hij hj2 g g' e1 e2
    · have := h.ilt i (by omega) g e1
      have := hlo g' e2
      omega
theorem GOwn.rd (h : GOwn w base hi A c os vs) : GRd w A os.length os := ⟨rfl, vs, h.vlen, Reads.of_own h.outer, fun i hi => slc_own (h.inner i hi) rfl⟩
theorem GOwn.setData {k : Nat} (h : GOwn w base hi A c os vs) (hk : k < os.length) (ys : List Int) (hy : ys.length = (os.getD k []).length)
    (hin : w'.ownsRow base 3 1 (vs.getD k nilV) ys.length (iv ys)) (hg : w.grownBy w' (vs.getD k nilV).ownBlock) : GOwn w' base hi A c (os.set k ys) vs := by
  have hl : (os.set k ys).length = os.length := by simp
  refine ⟨?_, by rw [hl]; exact h.vlen, fun i hi' => ?_, by rw [hl]; exact h.olt, by rw [hl]; exact h.ilt, by rw [hl]; exact h.inc⟩
  · rw [hl]
    refine h.outer.kept hg ?_
    rcases hu : (Value.slice A os.length c).ownBlock with _ | q
    · exact .inl rfl
    · exact .inr fun e => own_sep h.outer (h.inner k hk) (by decide) hu e.symm
  · rw [hl] at hi'
    rw [getD_set _ _ _ _ _ hk]
    by_cases e : i = k
    · rw [if_pos e, e]; exact hin
    · rw [if_neg e]
      refine (h.inner i hi').kept hg ?_
      rcases hu : (vs.getD i nilV).ownBlock with _ | q
      · exact .inl rfl
      · refine .inr fun e2 => ?_
        rcases Nat.lt_or_gt_of_ne e with hlt | hlt
        · exact absurd (h.inc i k hlt hk q q hu e2.symm) (by omega)
        · exact absurd (h.inc k i hlt hi' q q e2.symm hu) (by omega)
end
theorem gown_nil (w : World) (base hi : Nat) : GOwn w base hi none 0 [] [] :=
  ⟨World.ownsRow_nil _ _ _ _, rfl, (fun i hi => by simp at hi), (fun g hg => by cases hg), (fun i hi => by simp at hi), (fun i j _ hj => by simp at hj)⟩
theorem gown_lit (w : World) : GOwn (w.alloc (.cells #[] 23)) w.heap.size (w.alloc (.cells #[] 23)).heap.size (some ⟨w.heap.size, 0, none⟩) 0 [] [] :=
  ⟨World.ownsRow_lit w #[] 0 (Nat.le_refl _) (by simp [maxLen]) rfl, rfl, (fun i hi => by simp at hi), (fun g hg => by simp [Value.ownBlock] at hg; subst hg; simp), (fun i hi => by simp at hi), (fun i j _ hj => by simp at hj)⟩
def GivesG (w : World) (os : List (List Int)) (e : Ending) (w' : World) : Prop := ∃ A c vs, e = .returned (.slice A os.length c) ∧ GOwn w' w.heap.size w'.heap.size A c os vs ∧ Below w.heap.size w w'
def ZG (lo hi : Nat) (A : Option Addr) (c : Nat) (os : List (List Int)) (vs : List Value) (w : World) : Prop := GOwn w lo hi A c os vs
theorem local_ZG (lo hi : Nat) (A : Option Addr) (c : Nat) (os : List (List Int)) (vs : List Value) : Local lo hi (ZG lo hi A c os vs) :=
  fun w w' p hs hk => ⟨own_same p.outer fun g hg => hk g (p.outer.lt g hg).1 (p.olt g hg), p.vlen, fun i hi' => own_same (p.inner i hi') fun g hg => hk g ((p.inner i hi').lt g hg).1 (p.ilt i hi' g hg), p.olt, p.ilt, p.inc⟩
section
variable {w0 w w' : World} {L : List Zn} {A : Option Addr} {c lo hi : Nat} {os : List (List Int)} {vs : List Value}
theorem Zones.pushG (h : Zones w0 w L) (o : GOwn w' w.heap.size w'.heap.size A c os vs) (b : Below w.heap.size w w') : Zones w0 w' (⟨w.heap.size, w'.heap.size, ZG w.heap.size w'.heap.size A c os vs⟩ :: L) := h.push (P := ZG w.heap.size w'.heap.size A c os vs) o (local_ZG _ _ _ _ _ _) b
theorem Zones.gown (h : Zones w0 w L) (i : Nat) (hr : L[i]? = some ⟨lo, hi, ZG lo hi A c os vs⟩) : GOwn w lo hi A c os vs := h.at_ i hr
theorem Zones.grd (h : Zones w0 w L) (i : Nat) (hr : L[i]? = some ⟨lo, hi, ZG lo hi A c os vs⟩) : GRd w A os.length os := GOwn.rd (h.at_ i hr)
theorem Zones.gcap (h : Zones w0 w L) (i : Nat) (hr : L[i]? = some ⟨lo, hi, ZG lo hi A c os vs⟩) : os.length ≤ c := own_cap (GOwn.outer (h.at_ i hr))
theorem Zones.markG {ys : List (List Int)} (h : Zones w0 w L) (i : Nat) (hr : L[i]? = some ⟨lo, hi, ZG lo hi A c os vs⟩) (o : GOwn w' lo hi A c ys vs) (g : Touch lo hi w w') : Zones w0 w' (L.set i ⟨lo, hi, ZG lo hi A c ys vs⟩) :=
  h.mark (P' := ZG lo hi A c ys vs) i hr o (local_ZG _ _ _ _ _ _) g
end
/-- The mark ahead of row i. -/
def gkAt (k0 : Int) (os : List (List Int)) (i : Nat) : Int := k0 + sumR (os.take i)
def gkR (k0 : Int) (os : List (List Int)) (i : Nat) : List Int := marks (gkAt k0 os i) (os.getD i []).length
def gkL (k0 : Int) (k : Nat) (os : List (List Int)) : List (List Int) := (List.range k).map (gkR k0 os) ++ os.drop k
section
variable {os : List (List Int)} {k0 : Int} {k : Nat}
theorem gkL_len (hk : k ≤ os.length) : (gkL k0 k os).length = os.length := by simp [gkL]; omega
theorem gkL_at (hk : k < os.length) : (gkL k0 k os).getD k [] = os.getD k [] := by
  simp only [gkL, List.getD_eq_getElem?_getD]
  rw [List.getElem?_append_right (by simp)]
  simp
theorem gkL_succ (hk : k < os.length) : (gkL k0 k os).set k (gkR k0 os k) = gkL k0 (k + 1) os := by
  simp only [gkL]
  rw [List.set_append_right _ _ (by simp)]
  simp only [List.length_map, List.length_range, Nat.sub_self]
  rw [List.drop_eq_getElem_cons hk, List.set_cons_zero, List.range_succ, List.map_append, List.append_assoc]
  rfl
theorem gkL_all : gkL k0 os.length os = (List.range os.length).map (gkR k0 os) := by simp [gkL]
theorem gkL_get {i : Nat} (hi : i < os.length) : ((List.range os.length).map (gkR k0 os)).getD i [] = gkR k0 os i := by
  simp [List.getD_eq_getElem?_getD, List.getElem?_map, List.getElem?_range hi]
theorem gkAt_succ (hk : k < os.length) : gkAt k0 os (k + 1) = gkAt k0 os k + ((os.getD k []).length : Int) := by
  unfold gkAt
  rw [sumR_take hk]
  omega
theorem gkAt_bd (k : Nat) (h : sumR os ≤ 100000000) (h0 : 0 ≤ k0) (h1 : k0 ≤ 100000000) : 0 ≤ gkAt k0 os k ∧ gkAt k0 os k ≤ 300000000 := by
  have := sumR_le os k
  unfold gkAt
  omega
end
theorem Zones.grdM {w0 w : World} {L : List Zn} {A : Option Addr} {c lo hi : Nat} {os : List (List Int)} {vs : List Value} {k0 : Int} (h : Zones w0 w L) (i : Nat) (hr : L[i]? = some ⟨lo, hi, ZG lo hi A c ((List.range os.length).map (gkR k0 os)) vs⟩) : GRd w A os.length ((List.range os.length).map (gkR k0 os)) := by
  have := GOwn.rd (h.at_ i hr)
  simpa using this
/-- What szIntSS returns. -/
def szG : Int → List (List Int) → Int
  | l, [] => l
  | l, t :: os => if l - t.length < 0 then -1 else szG (l - t.length) os
theorem szG_step {os : List (List Int)} {k : Nat} (l : Int) (hk : k < os.length) : szG l (os.drop k) = if l - ((os.getD k []).length : Int) < 0 then -1 else szG (l - ((os.getD k []).length : Int)) (os.drop (k + 1)) := by
  rw [List.drop_eq_getElem_cons hk, List.getD_eq_getElem?_getD, List.getElem?_eq_getElem hk]
  rfl
theorem szG_ok : ∀ (os : List (List Int)) (l : Int), 0 ≤ szG l os → (sumR os : Int) ≤ l
  | [], l, h => by simpa [szG, sumR] using h
  | t :: os, l, h => by
    unfold szG at h
    split at h
    · omega
    · have := szG_ok os _ h
      unfold sumR at this ⊢
      simp only [List.map_cons, List.sum_cons]
      omega
def szGR (l : Int) (os : List (List Int)) : Int := if l - (os.length : Int) < 0 then -1 else szG (l - os.length) os
theorem szGR_ok {os : List (List Int)} {l : Int} (h : ¬ szGR l os < 0) : (os.length : Int) ≤ l ∧ (sumR os : Int) ≤ l := by
  unfold szGR at h
  split at h
  · omega
  · have := szG_ok os (l - os.length) (by omega)
    omega
set_option maxHeartbeats 1000000 in
theorem szIntSS_any (A : Option Addr) (n c : Nat) (os : List (List Int)) (l : Int) (w : World) (h : GRd w A n os) (h0 : 0 ≤ l) (h1 : l ≤ 1000000000) (hn : n ≤ 9223372036854775807) (hd : ∀ k, k < n → (os.getD k []).length ≤ 9223372036854775807) :
    Calls Try.prog 64 #[.slice A n c, .int .i64 l] w fun e w' => e = .returned (.int .i64 (szGR l os)) ∧ Below w.heap.size w w' := by
  have hl := h.1
  have H := Lib.hid h
  have HD := Lib.hid hd
  clear h hd
  have hw : IntKind.i64.wrap (l - n) = l - n := IntWalk.i64_in _ (by omega)
  by_cases hlt : l - (n : Int) < 0
  · have hr : szGR l os = -1 := by unfold szGR; rw [if_pos (by omega)]
    rw [hr]
    go_enter Try.func64, Try.ntmps64
    go_wp2_with fail
    go_ret
    exact ⟨rfl, Below.refl _ _⟩
  have hr : szGR l os = szG (l - n) os := by unfold szGR; rw [if_neg (by omega), hl]
  rw [hr]
  replace hr := Lib.hid hr
  go_enter Try.func64, Try.ntmps64
  go_wp2_with fail
  go_loopw [1, 5] (fun s i wr => ∃ (k : Nat) (m : Int), k ≤ n ∧ i = .int .i64 k ∧ s = .int .i64 m ∧ 0 ≤ m ∧ m ≤ l ∧ szG (l - n) os = szG m (os.drop k) ∧ Below w.heap.size w wr) (fun _ i _ => n - (intOf i).toNat)
  case atStart => exact ⟨0, l - n, Nat.zero_le _, rfl, rfl, by omega, by omega, rfl, Below.refl _ _⟩
  case round =>
    obtain ⟨k, m, hk, rfl, rfl, hm0, hm1, hall, hb⟩ := hrel
    by_cases hlt2 : k < n
    · obtain ⟨b, off, A', c', e1, hb1, c1, -, -, -⟩ := (H.out.below hb).spot hlt2
      rw [szG_step m (by omega)] at hall
      have hd := HD.out k hlt2
      generalize (os.getD k []).length = q at c1 hall hd
      have q0 : (0 : Int) ≤ (k : Int) := by omega
      have q1 : (k : Int) < (n : Int) := by omega
      have HB := Lib.hid hb
      have HA := Lib.hid hall
      have e2 := Lib.hid e1
      clear e1 hb hall
      rw [e2.out]
      by_cases hq : m - (q : Int) < 0
      · have hi : (if m - (q : Int) < 0 then (-1 : Int) else m - q) = -1 := if_pos hq
        go_wp2_with (go_at_call 40; refine (szIntS_any A' q c' m _ hm0 (by omega) hd).mono ?_; rintro e w2 ⟨rfl, rfl⟩; rw [hi])
        go_ret
        exact ⟨by rw [HA.out, if_pos (show m - (q : Int) < 0 by omega)]; rfl, HB.out⟩
      · have hi : (if m - (q : Int) < 0 then (-1 : Int) else m - q) = m - q := if_neg hq
        have hq2 : ¬ (m - (q : Int) < 0) := hq
        go_wp2_with (go_at_call 40; refine (szIntS_any A' q c' m _ hm0 (by omega) hd).mono ?_; rintro e w2 ⟨rfl, rfl⟩; rw [hi])
        go_roundw
        case rel => exact ⟨k + 1, m - q, by omega, by go_num, rfl, by omega, by omega, by rw [HA.out, if_neg (show ¬ (m - (q : Int) < 0) by omega)], HB.out⟩
        case measure => simp [intOf]; omega
    · obtain rfl : k = n := by omega
      go_wp2
      go_ret
      exact ⟨by rw [hall, List.drop_eq_nil_of_le (by omega)]; rfl, hb⟩
set_option maxHeartbeats 4000000 in
theorem eqIntSS_same (A B : Option Addr) (n c d : Nat) (os : List (List Int)) (w : World) (ha : GRd w A n os) (hb : GRd w B n os) (hn : n ≤ 1000000000) (hd : ∀ k, k < n → (os.getD k []).length ≤ 1000000000) :
    Calls Try.prog 66 #[.slice A n c, .slice B n d] w fun e w' => e = .returned (.bool true) ∧ Below w.heap.size w w' := by
  have hnn : (((n : Int) != (n : Int)) = false) := by simp
  have HA := Lib.hid ha
  have HB := Lib.hid hb
  have HD := Lib.hid hd
  clear ha hb hd
  go_enter Try.func66, Try.ntmps66
  go_wp2
  go_loopw [5] (fun i wr => ∃ k : Nat, k ≤ n ∧ i = .int .i64 k ∧ Below w.heap.size w wr) (fun i _ => n - (intOf i).toNat)
  case atStart => exact ⟨0, Nat.zero_le _, rfl, Below.refl _ _⟩
  case round =>
    obtain ⟨k, hk, rfl, hbel⟩ := hrel
    by_cases hlt : k < n
    · obtain ⟨b, off, A1, c1, e1, hb1, h1, -, -, i1⟩ := (HA.out.below hbel).spot hlt
      obtain ⟨b2, off2, A2, c2, e2, hb2, g1, -, -, i2⟩ := (HB.out.below hbel).spot hlt
      have hd := HD.out k hlt
      generalize os.getD k [] = xs at h1 g1 i1 i2 hd
      have q0 : (0 : Int) ≤ (k : Int) := by omega
      have q1 : (k : Int) < (n : Int) := by omega
      have hz := hbel.size
      have hto := Lib.hid (eqIntS_same A1 A2 xs.length c1 c2 xs wr.drew i1 i2 (by omega))
      have HBEL := Lib.hid hbel
      have E1 := Lib.hid e1
      have E2 := Lib.hid e2
      clear hbel e1 e2 i1 i2
      rw [E1.out, E2.out]
      go_wp2_with fail
      go_region_held3 (fun w' => w'.cell? ⟨b, off + k, none⟩ = some (.slice A1 xs.length c1) ∧ w'.cell? ⟨b2, off2 + k, none⟩ = some (.slice A2 xs.length c2)) (first | exact ⟨h1, g1⟩ | exact ⟨(b5.cell hb1).trans h1, (b5.cell hb2).trans g1⟩) ((go_at_call 16; refine (hto.out).mono ?_; rintro e w5 ⟨rfl, b5⟩))
      go_wp2_with fail
      go_roundw
      case rel => exact ⟨k + 1, by omega, by go_num, below_step HBEL.out.drew b5 hz⟩
      case measure => simp [intOf]; omega
    · go_wp2
      go_ret
      exact ⟨rfl, hbel⟩
set_option maxHeartbeats 2000000 in
theorem markIntSS_own (lo hi : Nat) (A : Option Addr) (c : Nat) (os : List (List Int)) (vs : List Value) (k0 : Int) (w : World) (h : GOwn w lo hi A c os vs) (h0 : 0 ≤ k0) (h1 : k0 ≤ 100000000) (hl : os.length ≤ 100000000) (hn : sumR os ≤ 100000000) :
    Calls Try.prog 67 #[.slice A os.length c, .int .i64 k0] w fun e w' => e = .returned (.int .i64 (gkAt k0 os os.length)) ∧ GOwn w' lo hi A c ((List.range os.length).map (gkR k0 os)) vs ∧ Touch lo hi w w' := by
  go_enter Try.func67, Try.ntmps67
  go_wp2
  go_loopw [1, 5] (fun m i wr => ∃ k : Nat, k ≤ os.length ∧ i = .int .i64 k ∧ m = .int .i64 (gkAt k0 os k) ∧ GOwn wr lo hi A c (gkL k0 k os) vs ∧ Touch lo hi w wr) (fun _ i _ => os.length - (intOf i).toNat)
  case atStart => exact ⟨0, Nat.zero_le _, rfl, by simp [gkAt, sumR], by simpa [gkL] using h, Touch.refl _ _ _⟩
  case round =>
    obtain ⟨k, hk, rfl, rfl, hown, hg⟩ := hrel
    by_cases hlt : k < os.length
    · have hll := gkL_len (os := os) (k0 := k0) (k := k) hk
      have hkl : k < (gkL k0 k os).length := by omega
      have ho := hown.outer
      rw [hll] at ho
      obtain ⟨g, cap, e1, hg1_1, hgl⟩ := ho.form (by omega)
      injection e1 with e1 _ e3
      subst e1 e3
      have hc1 := ho.cellAt k (by omega)
      rw [List.getElem?_eq_getElem (show k < vs.length by have := hown.vlen; omega)] at hc1
      have hve : vs[k]'(by have := hown.vlen; omega) = vs.getD k nilV := by rw [List.getD_eq_getElem?_getD, List.getElem?_eq_getElem (show k < vs.length by have := hown.vlen; omega)]; rfl
      rw [hve] at hc1
      have q0 : (0 : Int) ≤ (k : Int) := by omega
      have q1 : (k : Int) < (os.length : Int) := by omega
      have hin := hown.inner k hkl
      obtain ⟨A2, c2, ev⟩ := own_form hin
      rw [ev] at hc1
      have hsu := gkAt_succ (k0 := k0) hlt
      have hsc := gkL_succ (k0 := k0) hlt
      have bd := gkAt_bd (os := os) (k0 := k0) k hn h0 h1
      have hat := gkL_at (k0 := k0) hlt
      have bl := sumR_get hlt
      have hbl : (os.getD k []).length ≤ 100000000 := by omega
      have hmk : gkR k0 os k = marks (gkAt k0 os k) (os.getD k []).length := rfl
      rw [hat] at hin hc1 ev
      generalize gkAt k0 os k = M at hsu bd hmk
      generalize os.getD k [] = xs at hin hc1 ev hsu bl hbl hmk hat
      rw [ev] at hin
      have HG := Lib.hid hg
      have HP := Lib.hid hown
      have HI := Lib.hid hin
      have HSU := Lib.hid hsu
      have HSC := Lib.hid hsc
      have HMK := Lib.hid hmk
      have HEV := Lib.hid ev
      have HAT := Lib.hid hat
      clear hsu hsc hmk hown ho hin ev hg hat h bl hve
      go_wp2_with fail
      refine (markIntS_own lo A2 xs.length c2 xs M _ HI.out (by omega) (by omega) (by omega)).mono ?_
      rintro e w5 ⟨rfl, o5, g5⟩
      have hp2 := HP.out.setData (k := k) hkl (marks M xs.length) (by rw [HAT.out, marks_len]) (by rw [HEV.out, marks_len]; exact o5) (by rw [HEV.out]; exact g5)
      rw [← HMK.out, HSC.out] at hp2
      have HP2 := Lib.hid hp2
      have HG2 := Lib.hid (HG.out.trans (Touch.of_grown g5 (fun q hq => ⟨(HI.out.lt q hq).1, HP.out.ilt k hkl q (by rw [HEV.out]; exact hq)⟩)))
      clear hp2 g5 o5 hc1
      go_wp2_with fail
      go_roundw
      case rel => exact ⟨k + 1, by omega, by go_num, by rw [HSU.out], HP2.out, HG2.out⟩
      case measure => simp [intOf]; omega
    · obtain rfl : k = os.length := by omega
      go_wp2
      go_ret
      rw [gkL_all] at hown
      exact ⟨rfl, hown, hg⟩
end Go.Proofs.Ytgedfcccflobmaa
