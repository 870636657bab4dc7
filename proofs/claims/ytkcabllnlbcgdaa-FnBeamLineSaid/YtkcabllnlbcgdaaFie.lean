/-
  Backgrounds: read, tested by both packages. No condition but that lengths stay in range.
-/
import Derived.Test.YtkcabllnlbcgdaaTilS
import Derived.Deep.QuietTactic
import Derived.BigQuiet
namespace Go.Proofs.Ytkcabllnlbcgdaa
open Go.RowKit
set_option linter.unusedVariables false
set_option linter.unusedSimpArgs false
/-- A background: its numbers, its table and its tiles with the slices that hold them. -/
structure Fld where
  W : Int
  A : Option Addr
  n : Nat
  c : Nat
  ms : List Int
  T : Option Addr
  tn : Nat
  tc : Nat
  ts : List (List Int)
  sx : Int
  sy : Int
def Fld.cs (f : Fld) : Array Value := #[.int .i64 f.W, .slice f.A f.n f.c, .slice f.T f.tn f.tc, .int .i64 f.sx, .int .i64 f.sy]
def Fld.val (f : Fld) : Value := .agg f.cs
structure FRd (w : World) (f : Fld) : Prop where
  map : Ints w w.heap.size f.A f.n f.ms
  tiles : TiRd w w.heap.size f.T f.tn f.ts
  hn : f.n ≤ 100000000
  ht : f.tn ≤ 100000000
theorem FRd.below {w w' : World} {f : Fld} (h : FRd w f) (b : Below w.heap.size w w') : FRd w' f := ⟨(h.map.below b).more b.size, (h.tiles.below b).more b.size, h.hn, h.ht⟩
/-- A background's table and tiles, by themselves. -/
def fieldB (f : Fld) : Bool := inB f.W 1 8 && (decide ((f.ms.length : Int) % f.W = 0) && (inB ((f.ms.length : Int) / f.W) 1 8 && (decide (f.ts.length ≠ 0) && (tilesB f.ts && (inB f.sx 0 255 && (inB f.sy 0 255 && f.ms.all fun n => inB n 0 ((f.ts.length : Int) - 1)))))))
theorem newCell {w w5 : World} {cs : Array Value} {t : TypeId} (b : Below (w.alloc (.cells cs t)).heap.size (w.alloc (.cells cs t)) w5) (k : Nat) : w5.cell? ⟨w.heap.size, k, none⟩ = cs[k]? := (b.cell (by simp)).trans (cell_new ..)
theorem quoB {p l : Int} (h0 : 0 ≤ p) (h2 : 1 ≤ l) : (0 ≤ p / l ∧ p / l ≤ p) ∧ 0 ≤ p % l ∧ p % l < l :=
  ⟨⟨Int.ediv_nonneg h0 (by omega), Int.ediv_le_self _ h0⟩, Int.emod_nonneg _ (by omega), Int.emod_lt_of_pos _ (by omega)⟩
theorem map_bad {ms : List Int} {k : Nat} {t : Int} (hk : k < ms.length) (h : inB (ms.getD k 0) 0 t = false) : (ms.all fun n => inB n 0 t) = false := by
  rw [List.getD_eq_getElem?_getD, List.getElem?_eq_getElem hk, Option.getD_some] at h
  simp only [List.all_eq_false]
  exact ⟨_, List.getElem_mem hk, by rw [h]; simp⟩
theorem map_of {ms : List Int} {t : Int} (h : ∀ i, i < ms.length → inB (ms.getD i 0) 0 t = true) : (ms.all fun n => inB n 0 t) = true := by
  rw [List.all_eq_true]
  intro x hx
  obtain ⟨i, hi, rfl⟩ := List.mem_iff_getElem.1 hx
  have := h i hi
  rwa [List.getD_eq_getElem?_getD, List.getElem?_eq_getElem hi, Option.getD_some] at this
set_option maxRecDepth 20000 in
set_option maxHeartbeats 400000 in
theorem fieldValid_impl (f : Fld) (w : World) (h : FRd w f) : Calls Try.prog 52 #[f.val] w fun e w' => e = .returned (.bool (fieldB f)) ∧ Below w.heap.size w w' := by
  obtain ⟨W, A, n, c, ms, T, tn, tc, ts, sx, sy⟩ := f
  obtain ⟨hm, ht, hn1, hn2⟩ := h
  simp only at hm ht hn1 hn2
  have hml := hm.len
  have htl0 := ht.1
  subst hml
  subst htl0
  have hb0 : Below w.heap.size w (w.alloc (.cells #[.int .i64 W, .slice A ms.length c, .slice T ts.length tc, .int .i64 sx, .int .i64 sy] 26)) := (Below.refl _ _).alloc (Nat.le_refl _) _
  have HM := Lib.hid ((hm.below hb0).more hb0.size)
  have HT := Lib.hid ((ht.below hb0).more hb0.size)
  have HB0 := Lib.hid hb0
  clear hm ht hb0
  unfold Fld.val Fld.cs
  simp only []
  have htl := trivial
  have h3 := trivial
  have h5 := trivial
  have h6 := trivial
  cases h1 : inB W 1 8
  · have hbad := Lib.hid (show fieldB ⟨W, A, ms.length, c, ms, T, ts.length, tc, ts, sx, sy⟩ = false by simp [fieldB, h1])
    rw [hbad.out]
    go_enter Try.func52, Try.ntmps52
    go_wp2_with (first | (go_at_call 84; refine (tilesValid_any T ts.length tc ts _ HT.out (by omega)).mono ?_; rintro e w5 ⟨rfl, b5⟩; rw [htl]; have c1 := newCell b5 1; have c2 := newCell b5 2; have c3 := newCell b5 3; have c4 := newCell b5 4; simp only [List.getElem?_toArray, List.getElem?_cons_succ, List.getElem?_cons_zero] at c1 c2 c3 c4; replace b5 := Lib.hid b5) | (go_at_call 53; with_reducible refine (within_any W 1 8 _).mono ?_; rintro e w' ⟨rfl, rfl⟩; rw [h1]) | (go_at_call 53; with_reducible refine (within_any sx 0 255 _).mono ?_; rintro e w' ⟨rfl, rfl⟩; rw [h5]) | (go_at_call 53; with_reducible refine (within_any sy 0 255 _).mono ?_; rintro e w' ⟨rfl, rfl⟩; rw [h6]) | (go_at_call 53; with_reducible refine (within_any _ 1 8 _).mono ?_; rintro e w' ⟨rfl, rfl⟩; rw [h3]))
    go_ret
    exact ⟨rfl, by first | exact HB0.out | (have hx := HB0.out; rw [h4] at hx; exact hx) | exact below_step HB0.out b5.out HB0.out.size⟩
  obtain ⟨w1, w8⟩ := inB_iff.1 h1
  obtain ⟨⟨q1, q2⟩, q3, q4⟩ := quoB (p := (ms.length : Int)) (l := W) (by omega) w1
  have t1 : (ms.length : Int).tmod W = (ms.length : Int) % W := Int.tmod_eq_emod_of_nonneg (by omega)
  have t2 : (ms.length : Int).tdiv W = (ms.length : Int) / W := Int.tdiv_eq_ediv_of_nonneg (by omega)
  have w0 : W ≠ 0 := by omega
  by_cases h2 : (ms.length : Int) % W = 0
  · cases h3 : inB ((ms.length : Int) / W) 1 8
    · have hbad := Lib.hid (show fieldB ⟨W, A, ms.length, c, ms, T, ts.length, tc, ts, sx, sy⟩ = false by simp [fieldB, h3])
      rw [hbad.out]
      go_enter Try.func52, Try.ntmps52
      go_wp2_with (first | (go_at_call 84; refine (tilesValid_any T ts.length tc ts _ HT.out (by omega)).mono ?_; rintro e w5 ⟨rfl, b5⟩; rw [htl]; have c1 := newCell b5 1; have c2 := newCell b5 2; have c3 := newCell b5 3; have c4 := newCell b5 4; simp only [List.getElem?_toArray, List.getElem?_cons_succ, List.getElem?_cons_zero] at c1 c2 c3 c4; replace b5 := Lib.hid b5) | (go_at_call 53; with_reducible refine (within_any W 1 8 _).mono ?_; rintro e w' ⟨rfl, rfl⟩; rw [h1]) | (go_at_call 53; with_reducible refine (within_any sx 0 255 _).mono ?_; rintro e w' ⟨rfl, rfl⟩; rw [h5]) | (go_at_call 53; with_reducible refine (within_any sy 0 255 _).mono ?_; rintro e w' ⟨rfl, rfl⟩; rw [h6]) | (go_at_call 53; with_reducible refine (within_any _ 1 8 _).mono ?_; rintro e w' ⟨rfl, rfl⟩; rw [h3]))
      go_ret
      exact ⟨rfl, by first | exact HB0.out | (have hx := HB0.out; rw [h4] at hx; exact hx) | exact below_step HB0.out b5.out HB0.out.size⟩
    by_cases h4 : ts.length = 0
    · have hbad := Lib.hid (show fieldB ⟨W, A, ms.length, c, ms, T, ts.length, tc, ts, sx, sy⟩ = false by simp [fieldB, h4])
      rw [hbad.out]
      go_enter Try.func52, Try.ntmps52
      go_wp2_with (first | (go_at_call 84; refine (tilesValid_any T ts.length tc ts _ HT.out (by omega)).mono ?_; rintro e w5 ⟨rfl, b5⟩; rw [htl]; have c1 := newCell b5 1; have c2 := newCell b5 2; have c3 := newCell b5 3; have c4 := newCell b5 4; simp only [List.getElem?_toArray, List.getElem?_cons_succ, List.getElem?_cons_zero] at c1 c2 c3 c4; replace b5 := Lib.hid b5) | (go_at_call 53; with_reducible refine (within_any W 1 8 _).mono ?_; rintro e w' ⟨rfl, rfl⟩; rw [h1]) | (go_at_call 53; with_reducible refine (within_any sx 0 255 _).mono ?_; rintro e w' ⟨rfl, rfl⟩; rw [h5]) | (go_at_call 53; with_reducible refine (within_any sy 0 255 _).mono ?_; rintro e w' ⟨rfl, rfl⟩; rw [h6]) | (go_at_call 53; with_reducible refine (within_any _ 1 8 _).mono ?_; rintro e w' ⟨rfl, rfl⟩; rw [h3]))
      go_ret
      exact ⟨rfl, by first | exact HB0.out | (have hx := HB0.out; rw [h4] at hx; exact hx) | exact below_step HB0.out b5.out HB0.out.size⟩
    cases htl : tilesB ts
    · have hbad := Lib.hid (show fieldB ⟨W, A, ms.length, c, ms, T, ts.length, tc, ts, sx, sy⟩ = false by simp [fieldB, htl])
      rw [hbad.out]
      go_enter Try.func52, Try.ntmps52
      go_wp2_with (first | (go_at_call 84; refine (tilesValid_any T ts.length tc ts _ HT.out (by omega)).mono ?_; rintro e w5 ⟨rfl, b5⟩; rw [htl]; have c1 := newCell b5 1; have c2 := newCell b5 2; have c3 := newCell b5 3; have c4 := newCell b5 4; simp only [List.getElem?_toArray, List.getElem?_cons_succ, List.getElem?_cons_zero] at c1 c2 c3 c4; replace b5 := Lib.hid b5) | (go_at_call 53; with_reducible refine (within_any W 1 8 _).mono ?_; rintro e w' ⟨rfl, rfl⟩; rw [h1]) | (go_at_call 53; with_reducible refine (within_any sx 0 255 _).mono ?_; rintro e w' ⟨rfl, rfl⟩; rw [h5]) | (go_at_call 53; with_reducible refine (within_any sy 0 255 _).mono ?_; rintro e w' ⟨rfl, rfl⟩; rw [h6]) | (go_at_call 53; with_reducible refine (within_any _ 1 8 _).mono ?_; rintro e w' ⟨rfl, rfl⟩; rw [h3]))
      go_ret
      exact ⟨rfl, by first | exact HB0.out | (have hx := HB0.out; rw [h4] at hx; exact hx) | exact below_step HB0.out b5.out HB0.out.size⟩
    cases h5 : inB sx 0 255
    · have hbad := Lib.hid (show fieldB ⟨W, A, ms.length, c, ms, T, ts.length, tc, ts, sx, sy⟩ = false by simp [fieldB, h5])
      rw [hbad.out]
      go_enter Try.func52, Try.ntmps52
      go_wp2_with (first | (go_at_call 84; refine (tilesValid_any T ts.length tc ts _ HT.out (by omega)).mono ?_; rintro e w5 ⟨rfl, b5⟩; rw [htl]; have c1 := newCell b5 1; have c2 := newCell b5 2; have c3 := newCell b5 3; have c4 := newCell b5 4; simp only [List.getElem?_toArray, List.getElem?_cons_succ, List.getElem?_cons_zero] at c1 c2 c3 c4; replace b5 := Lib.hid b5) | (go_at_call 53; with_reducible refine (within_any W 1 8 _).mono ?_; rintro e w' ⟨rfl, rfl⟩; rw [h1]) | (go_at_call 53; with_reducible refine (within_any sx 0 255 _).mono ?_; rintro e w' ⟨rfl, rfl⟩; rw [h5]) | (go_at_call 53; with_reducible refine (within_any sy 0 255 _).mono ?_; rintro e w' ⟨rfl, rfl⟩; rw [h6]) | (go_at_call 53; with_reducible refine (within_any _ 1 8 _).mono ?_; rintro e w' ⟨rfl, rfl⟩; rw [h3]))
      go_ret
      exact ⟨rfl, by first | exact HB0.out | (have hx := HB0.out; rw [h4] at hx; exact hx) | exact below_step HB0.out b5.out HB0.out.size⟩
    cases h6 : inB sy 0 255
    · have hbad := Lib.hid (show fieldB ⟨W, A, ms.length, c, ms, T, ts.length, tc, ts, sx, sy⟩ = false by simp [fieldB, h6])
      rw [hbad.out]
      go_enter Try.func52, Try.ntmps52
      go_wp2_with (first | (go_at_call 84; refine (tilesValid_any T ts.length tc ts _ HT.out (by omega)).mono ?_; rintro e w5 ⟨rfl, b5⟩; rw [htl]; have c1 := newCell b5 1; have c2 := newCell b5 2; have c3 := newCell b5 3; have c4 := newCell b5 4; simp only [List.getElem?_toArray, List.getElem?_cons_succ, List.getElem?_cons_zero] at c1 c2 c3 c4; replace b5 := Lib.hid b5) | (go_at_call 53; with_reducible refine (within_any W 1 8 _).mono ?_; rintro e w' ⟨rfl, rfl⟩; rw [h1]) | (go_at_call 53; with_reducible refine (within_any sx 0 255 _).mono ?_; rintro e w' ⟨rfl, rfl⟩; rw [h5]) | (go_at_call 53; with_reducible refine (within_any sy 0 255 _).mono ?_; rintro e w' ⟨rfl, rfl⟩; rw [h6]) | (go_at_call 53; with_reducible refine (within_any _ 1 8 _).mono ?_; rintro e w' ⟨rfl, rfl⟩; rw [h3]))
      go_ret
      exact ⟨rfl, by first | exact HB0.out | (have hx := HB0.out; rw [h4] at hx; exact hx) | exact below_step HB0.out b5.out HB0.out.size⟩
    have hr : fieldB ⟨W, A, ms.length, c, ms, T, ts.length, tc, ts, sx, sy⟩ = ms.all fun n => inB n 0 ((ts.length : Int) - 1) := by simp [fieldB, h1, h2, h3, h4, htl, h5, h6]
    rw [hr]
    replace hr := Lib.hid hr
    have e4 : ((ts.length : Int) == 0) = false := by simpa using h4
    go_enter Try.func52, Try.ntmps52
    go_wp2_with (first | (go_at_call 84; refine (tilesValid_any T ts.length tc ts _ HT.out (by omega)).mono ?_; rintro e w5 ⟨rfl, b5⟩; rw [htl]; have c1 := newCell b5 1; have c2 := newCell b5 2; have c3 := newCell b5 3; have c4 := newCell b5 4; simp only [List.getElem?_toArray, List.getElem?_cons_succ, List.getElem?_cons_zero] at c1 c2 c3 c4; replace b5 := Lib.hid b5) | (go_at_call 53; with_reducible refine (within_any W 1 8 _).mono ?_; rintro e w' ⟨rfl, rfl⟩; rw [h1]) | (go_at_call 53; with_reducible refine (within_any sx 0 255 _).mono ?_; rintro e w' ⟨rfl, rfl⟩; rw [h5]) | (go_at_call 53; with_reducible refine (within_any sy 0 255 _).mono ?_; rintro e w' ⟨rfl, rfl⟩; rw [h6]) | (go_at_call 53; with_reducible refine (within_any _ 1 8 _).mono ?_; rintro e w' ⟨rfl, rfl⟩; rw [h3]))
    have hb := Lib.hid (below_step HB0.out b5.out HB0.out.size)
    have hm := Lib.hid ((HM.out.below b5.out).more b5.out.size)
    go_loopw [53] (fun i wr => ∃ k : Nat, k ≤ ms.length ∧ i = .int .i64 k ∧ (∀ i, i < k → inB (ms.getD i 0) 0 ((ts.length : Int) - 1) = true) ∧ wr = w5) (fun i _ => ms.length - (intOf i).toNat)
    case atStart => exact ⟨0, Nat.zero_le _, rfl, fun i hi => by omega, rfl⟩
    case round =>
      obtain ⟨k, hk, rfl, hall, rfl⟩ := hrel
      by_cases hlt : k < ms.length
      · obtain ⟨ad, rfl, hb1, hc⟩ := hm.out.at_ hlt
        have q0 : (0 : Int) ≤ (k : Int) := by omega
        have q5 : (k : Int) < (ms.length : Int) := by omega
        have eg : ms.getD k 0 = ms[k] := by rw [List.getD_eq_getElem?_getD, List.getElem?_eq_getElem hlt, Option.getD_some]
        cases hin : inB ms[k] 0 ((ts.length : Int) - 1)
        · have hbad := Lib.hid (map_bad hlt (by rw [eg]; exact hin))
          clear hall
          go_wp2_with (go_at_call 53; with_reducible refine (within_any _ 0 ((ts.length : Int) - 1) _).mono ?_; rintro e w' ⟨rfl, rfl⟩; rw [hin])
          go_ret
          rw [hbad.out]
          exact ⟨rfl, hb.out⟩
        · have hall2 := Lib.hid (show ∀ i, i < k + 1 → inB (ms.getD i 0) 0 ((ts.length : Int) - 1) = true from fun i hi => by rcases Nat.lt_or_ge i k with h | h; exact hall i h; obtain rfl : i = k := (by omega); rw [eg]; exact hin)
          clear hall
          go_wp2_with (go_at_call 53; with_reducible refine (within_any _ 0 ((ts.length : Int) - 1) _).mono ?_; rintro e w' ⟨rfl, rfl⟩; rw [hin])
          go_roundw
          case rel => exact ⟨k + 1, by omega, by go_num, hall2.out, trivial⟩
          case measure => simp [intOf]; omega
      · obtain rfl : k = ms.length := by omega
        have hg := Lib.hid (map_of (ms := ms) fun i hi => hall i (by omega))
        clear hall
        go_wp2_with fail
        go_ret
        rw [hg.out]
        exact ⟨rfl, hb.out⟩
  · have hbad := Lib.hid (show fieldB ⟨W, A, ms.length, c, ms, T, ts.length, tc, ts, sx, sy⟩ = false by simp [fieldB, h2])
    rw [hbad.out]
    go_enter Try.func52, Try.ntmps52
    go_wp2_with (first | (go_at_call 84; refine (tilesValid_any T ts.length tc ts _ HT.out (by omega)).mono ?_; rintro e w5 ⟨rfl, b5⟩; rw [htl]; have c1 := newCell b5 1; have c2 := newCell b5 2; have c3 := newCell b5 3; have c4 := newCell b5 4; simp only [List.getElem?_toArray, List.getElem?_cons_succ, List.getElem?_cons_zero] at c1 c2 c3 c4; replace b5 := Lib.hid b5) | (go_at_call 53; with_reducible refine (within_any W 1 8 _).mono ?_; rintro e w' ⟨rfl, rfl⟩; rw [h1]) | (go_at_call 53; with_reducible refine (within_any sx 0 255 _).mono ?_; rintro e w' ⟨rfl, rfl⟩; rw [h5]) | (go_at_call 53; with_reducible refine (within_any sy 0 255 _).mono ?_; rintro e w' ⟨rfl, rfl⟩; rw [h6]) | (go_at_call 53; with_reducible refine (within_any _ 1 8 _).mono ?_; rintro e w' ⟨rfl, rfl⟩; rw [h3]))
    go_ret
    exact ⟨rfl, by first | exact HB0.out | (have hx := HB0.out; rw [h4] at hx; exact hx) | exact below_step HB0.out b5.out HB0.out.size⟩
theorem field_eq (f : Fld) : fieldB f = (inB f.W 1 8 && (decide ((f.ms.length : Int) % f.W = 0) && (inB ((f.ms.length : Int) / f.W) 1 8 && (inB (f.ts.length : Int) 1 16 && (inB f.sx 0 255 && (inB f.sy 0 255 && (f.ts.all tileB && f.ms.all fun n => inB n 0 ((f.ts.length : Int) - 1)))))))) := by
  unfold fieldB tilesB
  generalize f.ts.length = m
  have e : inB (m : Int) 1 16 = (decide (m ≠ 0) && decide (m ≤ 16)) := by
    rw [Bool.eq_iff_iff, inB_iff, Bool.and_eq_true, decide_eq_true_iff, decide_eq_true_iff]; omega
  rw [e]
  cases inB f.sx 0 255 <;> cases inB f.sy 0 255 <;> cases f.ts.all tileB <;> simp [Bool.and_assoc]
theorem l1In_is {n lo hi : Int} {b : Bool} (h : inB n lo hi = b) (w : World) :
    Calls Try.prog 49 #[.int .i64 n, .int .i64 lo, .int .i64 hi] w fun e w' => e = .returned (.bool b) ∧ w = w' := by
  subst h
  exact l1In_any n lo hi w
set_option maxRecDepth 20000 in
set_option maxHeartbeats 2000000 in
theorem fieldValid_spec (f : Fld) (w : World) (h : FRd w f) : Calls Try.prog 12 #[f.val] w fun e w' => e = .returned (.bool (fieldB f)) ∧ Below w.heap.size w w' := by
  obtain ⟨W, A, n, c, ms, T, tn, tc, ts, sx, sy⟩ := f
  obtain ⟨hm, ht, hn1, hn2⟩ := h
  simp only at hm ht hn1 hn2
  have hml := hm.len
  have htl0 := ht.1
  subst hml
  subst htl0
  have hb0 : Below w.heap.size w (w.alloc (.cells #[.int .i64 W, .slice A ms.length c, .slice T ts.length tc, .int .i64 sx, .int .i64 sy] 26)) := (Below.refl _ _).alloc (Nat.le_refl _) _
  have HM := Lib.hid ((hm.below hb0).more hb0.size)
  have HT := Lib.hid ((ht.below hb0).more hb0.size)
  have HB0 := Lib.hid hb0
  clear hm ht hb0
  unfold Fld.val Fld.cs
  simp only []
  have h3 := trivial
  have h4 := trivial
  have h5 := trivial
  have h6 := trivial
  cases h1 : inB W 1 8
  · have hbad := Lib.hid (show fieldB ⟨W, A, ms.length, c, ms, T, ts.length, tc, ts, sx, sy⟩ = false by rw [field_eq]; simp [h1])
    rw [hbad.out]
    go_enter Try.func12, Try.ntmps12
    go_wp2_with (first | (go_at_call 49; with_reducible refine (l1In_any W 1 8 _).mono ?_; rintro e w' ⟨rfl, rfl⟩; rw [h1]) | (go_at_call 49; with_reducible refine (l1In_any sx 0 255 _).mono ?_; rintro e w' ⟨rfl, rfl⟩; rw [h5]) | (go_at_call 49; with_reducible refine (l1In_any sy 0 255 _).mono ?_; rintro e w' ⟨rfl, rfl⟩; rw [h6]) | (go_at_call 49; with_reducible refine (l1In_any _ 1 8 _).mono ?_; rintro e w' ⟨rfl, rfl⟩; rw [h3]) | (go_at_call 49; with_reducible refine (l1In_any _ 1 16 _).mono ?_; rintro e w' ⟨rfl, rfl⟩; rw [h4]))
    go_ret
    exact ⟨rfl, HB0.out⟩
  obtain ⟨w1, w8⟩ := inB_iff.1 h1
  obtain ⟨⟨q1, q2⟩, q3, q4⟩ := quoB (p := (ms.length : Int)) (l := W) (by omega) w1
  have t1 : (ms.length : Int).tmod W = (ms.length : Int) % W := Int.tmod_eq_emod_of_nonneg (by omega)
  have t2 : (ms.length : Int).tdiv W = (ms.length : Int) / W := Int.tdiv_eq_ediv_of_nonneg (by omega)
  have w0 : W ≠ 0 := by omega
  by_cases h2 : (ms.length : Int) % W = 0
  · cases h3 : inB ((ms.length : Int) / W) 1 8
    · have hbad := Lib.hid (show fieldB ⟨W, A, ms.length, c, ms, T, ts.length, tc, ts, sx, sy⟩ = false by rw [field_eq]; simp [h3])
      rw [hbad.out]
      go_enter Try.func12, Try.ntmps12
      go_wp2_with (first | (go_at_call 49; with_reducible refine (l1In_any W 1 8 _).mono ?_; rintro e w' ⟨rfl, rfl⟩; rw [h1]) | (go_at_call 49; with_reducible refine (l1In_any sx 0 255 _).mono ?_; rintro e w' ⟨rfl, rfl⟩; rw [h5]) | (go_at_call 49; with_reducible refine (l1In_any sy 0 255 _).mono ?_; rintro e w' ⟨rfl, rfl⟩; rw [h6]) | (go_at_call 49; with_reducible refine (l1In_any _ 1 8 _).mono ?_; rintro e w' ⟨rfl, rfl⟩; rw [h3]) | (go_at_call 49; with_reducible refine (l1In_any _ 1 16 _).mono ?_; rintro e w' ⟨rfl, rfl⟩; rw [h4]))
      go_ret
      exact ⟨rfl, HB0.out⟩
    cases h4 : inB (ts.length : Int) 1 16
    · have hbad := Lib.hid (show fieldB ⟨W, A, ms.length, c, ms, T, ts.length, tc, ts, sx, sy⟩ = false by rw [field_eq]; simp [h4])
      rw [hbad.out]
      go_enter Try.func12, Try.ntmps12
      go_wp2_with (first | (go_at_call 49; with_reducible refine (l1In_any W 1 8 _).mono ?_; rintro e w' ⟨rfl, rfl⟩; rw [h1]) | (go_at_call 49; with_reducible refine (l1In_any sx 0 255 _).mono ?_; rintro e w' ⟨rfl, rfl⟩; rw [h5]) | (go_at_call 49; with_reducible refine (l1In_any sy 0 255 _).mono ?_; rintro e w' ⟨rfl, rfl⟩; rw [h6]) | (go_at_call 49; with_reducible refine (l1In_any _ 1 8 _).mono ?_; rintro e w' ⟨rfl, rfl⟩; rw [h3]) | (go_at_call 49; with_reducible refine (l1In_any _ 1 16 _).mono ?_; rintro e w' ⟨rfl, rfl⟩; rw [h4]))
      go_ret
      exact ⟨rfl, HB0.out⟩
    cases h5 : inB sx 0 255
    · have hbad := Lib.hid (show fieldB ⟨W, A, ms.length, c, ms, T, ts.length, tc, ts, sx, sy⟩ = false by rw [field_eq]; simp [h5])
      rw [hbad.out]
      go_enter Try.func12, Try.ntmps12
      go_wp2_with (first | (go_at_call 49; with_reducible refine (l1In_any W 1 8 _).mono ?_; rintro e w' ⟨rfl, rfl⟩; rw [h1]) | (go_at_call 49; with_reducible refine (l1In_any sx 0 255 _).mono ?_; rintro e w' ⟨rfl, rfl⟩; rw [h5]) | (go_at_call 49; with_reducible refine (l1In_any sy 0 255 _).mono ?_; rintro e w' ⟨rfl, rfl⟩; rw [h6]) | (go_at_call 49; with_reducible refine (l1In_any _ 1 8 _).mono ?_; rintro e w' ⟨rfl, rfl⟩; rw [h3]) | (go_at_call 49; with_reducible refine (l1In_any _ 1 16 _).mono ?_; rintro e w' ⟨rfl, rfl⟩; rw [h4]))
      go_ret
      exact ⟨rfl, HB0.out⟩
    cases h6 : inB sy 0 255
    · have hbad := Lib.hid (show fieldB ⟨W, A, ms.length, c, ms, T, ts.length, tc, ts, sx, sy⟩ = false by rw [field_eq]; simp [h6])
      rw [hbad.out]
      go_enter Try.func12, Try.ntmps12
      go_wp2_with (first | (go_at_call 49; with_reducible refine (l1In_any W 1 8 _).mono ?_; rintro e w' ⟨rfl, rfl⟩; rw [h1]) | (go_at_call 49; with_reducible refine (l1In_any sx 0 255 _).mono ?_; rintro e w' ⟨rfl, rfl⟩; rw [h5]) | (go_at_call 49; with_reducible refine (l1In_any sy 0 255 _).mono ?_; rintro e w' ⟨rfl, rfl⟩; rw [h6]) | (go_at_call 49; with_reducible refine (l1In_any _ 1 8 _).mono ?_; rintro e w' ⟨rfl, rfl⟩; rw [h3]) | (go_at_call 49; with_reducible refine (l1In_any _ 1 16 _).mono ?_; rintro e w' ⟨rfl, rfl⟩; rw [h4]))
      go_ret
      exact ⟨rfl, HB0.out⟩
    have hr : fieldB ⟨W, A, ms.length, c, ms, T, ts.length, tc, ts, sx, sy⟩ = (ts.all tileB && ms.all fun n => inB n 0 ((ts.length : Int) - 1)) := by rw [field_eq]; simp [h1, h2, h3, h4, h5, h6]
    rw [hr]
    replace hr := Lib.hid hr
    go_enter Try.func12, Try.ntmps12
    go_wp2_with (first | (go_at_call 49; with_reducible refine (l1In_any W 1 8 _).mono ?_; rintro e w' ⟨rfl, rfl⟩; rw [h1]) | (go_at_call 49; with_reducible refine (l1In_any sx 0 255 _).mono ?_; rintro e w' ⟨rfl, rfl⟩; rw [h5]) | (go_at_call 49; with_reducible refine (l1In_any sy 0 255 _).mono ?_; rintro e w' ⟨rfl, rfl⟩; rw [h6]) | (go_at_call 49; with_reducible refine (l1In_any _ 1 8 _).mono ?_; rintro e w' ⟨rfl, rfl⟩; rw [h3]) | (go_at_call 49; with_reducible refine (l1In_any _ 1 16 _).mono ?_; rintro e w' ⟨rfl, rfl⟩; rw [h4]))
    go_loopw [3] (fun i wr => ∃ k : Nat, k ≤ ts.length ∧ i = .int .i64 k ∧ (∀ i, i < k → tileB (ts.getD i []) = true) ∧ Below (w.alloc (.cells #[.int .i64 W, .slice A ms.length c, .slice T ts.length tc, .int .i64 sx, .int .i64 sy] 26)).heap.size (w.alloc (.cells #[.int .i64 W, .slice A ms.length c, .slice T ts.length tc, .int .i64 sx, .int .i64 sy] 26)) wr) (fun i _ => ts.length - (intOf i).toNat)
    case atStart => exact ⟨0, Nat.zero_le _, rfl, fun i hi => by omega, Below.refl _ _⟩
    case round =>
      obtain ⟨k, hk, rfl, hall, hb⟩ := hrel
      by_cases hlt : k < ts.length
      · obtain ⟨b, off, rfl, hb1, hc⟩ := (HT.out.below hb).spot hlt
        have hpl := HT.out.len hlt
        have q0 : (0 : Int) ≤ (k : Int) := by omega
        have q5 : (k : Int) < (ts.length : Int) := by omega
        cases htb : tileB (ts.getD k [])
        · have hbad := Lib.hid (tiles_bad hlt htb)
          clear hall
          generalize ts.getD k [] = px at hc hpl htb
          have HC := Lib.hid hc
          have HIN := Lib.hid (show (Try.prog.info? 83).map (·.size) = some (iv px).length by rw [iv_len, hpl]; exact tile_info)
          have HPL := Lib.hid hpl
          have c1 := newCell hb 1
          have c2 := newCell hb 2
          simp only [List.getElem?_toArray, List.getElem?_cons_succ, List.getElem?_cons_zero] at c1 c2
          replace hb := Lib.hid hb
          clear hc hpl
          go_wp2_with (first | (refine wpList_load_mid rfl 83 _ rfl b (off + k * 64) rfl (iv px) _ HC.out Try.underlying83 rfl HIN.out ?_) | (go_at_call 50; refine (tileValid_spec px HPL.out _).mono ?_; rintro e w5 ⟨rfl, b5⟩; rw [htb]; have hb5 := Lib.hid (below_step hb.out b5 hb.out.size); clear b5))
          go_ret
          rw [hbad.out, Bool.false_and]
          exact ⟨rfl, below_step HB0.out hb5.out HB0.out.size⟩
        · have hall2 := Lib.hid (show ∀ i, i < k + 1 → tileB (ts.getD i []) = true from fun i hi => by rcases Nat.lt_or_ge i k with h | h; exact hall i h; obtain rfl : i = k := (by omega); exact htb)
          clear hall
          generalize ts.getD k [] = px at hc hpl htb
          have HC := Lib.hid hc
          have HIN := Lib.hid (show (Try.prog.info? 83).map (·.size) = some (iv px).length by rw [iv_len, hpl]; exact tile_info)
          have HPL := Lib.hid hpl
          have c1 := newCell hb 1
          have c2 := newCell hb 2
          simp only [List.getElem?_toArray, List.getElem?_cons_succ, List.getElem?_cons_zero] at c1 c2
          replace hb := Lib.hid hb
          clear hc hpl
          go_wp2_with (first | (refine wpList_load_mid rfl 83 _ rfl b (off + k * 64) rfl (iv px) _ HC.out Try.underlying83 rfl HIN.out ?_) | (go_at_call 50; refine (tileValid_spec px HPL.out _).mono ?_; rintro e w5 ⟨rfl, b5⟩; rw [htb]; have hb5 := Lib.hid (below_step hb.out b5 hb.out.size); clear b5))
          go_roundw
          case rel => exact ⟨k + 1, by omega, by go_num, hall2.out, hb5.out⟩
          case measure => simp [intOf]; omega
      · obtain rfl : k = ts.length := by omega
        have htg := Lib.hid (tiles_of (ts := ts) fun i hi => hall i (by omega))
        clear hall
        have HBL := Lib.hid hb
        have c2 := newCell hb 2
        simp only [List.getElem?_toArray, List.getElem?_cons_succ, List.getElem?_cons_zero] at c2
        clear hb
        go_wp2_with fail
        clear c2
        go_loopw [4] (fun i wr2 => ∃ k : Nat, k ≤ ms.length ∧ i = .int .i64 k ∧ (∀ i, i < k → inB (ms.getD i 0) 0 ((ts.length : Int) - 1) = true) ∧ Below (w.alloc (.cells #[.int .i64 W, .slice A ms.length c, .slice T ts.length tc, .int .i64 sx, .int .i64 sy] 26)).heap.size (w.alloc (.cells #[.int .i64 W, .slice A ms.length c, .slice T ts.length tc, .int .i64 sx, .int .i64 sy] 26)) wr2) (fun i _ => ms.length - (intOf i).toNat)
        case atStart => exact ⟨0, Nat.zero_le _, rfl, fun i hi => by omega, HBL.out⟩
        case round =>
          clear HBL
          obtain ⟨k, hk, rfl, hall, hb⟩ := hrel
          have c1 := newCell hb 1
          have c2 := newCell hb 2
          simp only [List.getElem?_toArray, List.getElem?_cons_succ, List.getElem?_cons_zero] at c1 c2
          by_cases hlt : k < ms.length
          · obtain ⟨ad, rfl, hb1, hc⟩ := ((HM.out.below hb).more hb.size).at_ hlt
            replace hb := Lib.hid hb
            have q0 : (0 : Int) ≤ (k : Int) := by omega
            have q5 : (k : Int) < (ms.length : Int) := by omega
            have q6 : 0 ≤ k := by omega
            have eg : ms.getD k 0 = ms[k] := by rw [List.getD_eq_getElem?_getD, List.getElem?_eq_getElem hlt, Option.getD_some]
            cases hin : inB ms[k] 0 ((ts.length : Int) - 1)
            · have hbad := Lib.hid (map_bad hlt (by rw [eg]; exact hin))
              clear hall
              go_wp2_with fail
              go_quiet ((exact (l1In_is hin _).mono (by rintro e w' ⟨rfl, rfl⟩; exact ⟨rfl, _, rfl⟩)))
              go_wp2_with fail
              go_ret
              rw [htg.out, hbad.out]
              exact ⟨rfl, below_drewN (below_step HB0.out hb.out HB0.out.size) _⟩
            · have hall2 := Lib.hid (show ∀ i, i < k + 1 → inB (ms.getD i 0) 0 ((ts.length : Int) - 1) = true from fun i hi => by rcases Nat.lt_or_ge i k with h | h; exact hall i h; obtain rfl : i = k := (by omega); rw [eg]; exact hin)
              clear hall
              go_wp2_with fail
              go_quiet ((exact (l1In_is hin _).mono (by rintro e w' ⟨rfl, rfl⟩; exact ⟨rfl, _, rfl⟩)))
              go_wp2_with fail
              go_roundw
              case rel => exact ⟨k + 1, by omega, by go_num, hall2.out, below_drewN hb.out _⟩
              case measure => simp [intOf]; omega
          · obtain rfl : k = ms.length := by omega
            have hg := Lib.hid (map_of (ms := ms) fun i hi => hall i (by omega))
            clear hall
            replace hb := Lib.hid hb
            go_wp2_with fail
            go_ret
            rw [htg.out, hg.out]
            exact ⟨rfl, below_step HB0.out hb.out HB0.out.size⟩
  · have hbad := Lib.hid (show fieldB ⟨W, A, ms.length, c, ms, T, ts.length, tc, ts, sx, sy⟩ = false by rw [field_eq]; simp [h2])
    rw [hbad.out]
    go_enter Try.func12, Try.ntmps12
    go_wp2_with (first | (go_at_call 49; with_reducible refine (l1In_any W 1 8 _).mono ?_; rintro e w' ⟨rfl, rfl⟩; rw [h1]) | (go_at_call 49; with_reducible refine (l1In_any sx 0 255 _).mono ?_; rintro e w' ⟨rfl, rfl⟩; rw [h5]) | (go_at_call 49; with_reducible refine (l1In_any sy 0 255 _).mono ?_; rintro e w' ⟨rfl, rfl⟩; rw [h6]) | (go_at_call 49; with_reducible refine (l1In_any _ 1 8 _).mono ?_; rintro e w' ⟨rfl, rfl⟩; rw [h3]) | (go_at_call 49; with_reducible refine (l1In_any _ 1 16 _).mono ?_; rintro e w' ⟨rfl, rfl⟩; rw [h4]))
    go_ret
    exact ⟨rfl, HB0.out⟩
end Go.Proofs.Ytkcabllnlbcgdaa
