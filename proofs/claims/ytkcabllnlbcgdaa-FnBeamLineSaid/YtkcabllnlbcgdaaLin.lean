/-
  The sprites of a line, and the first of them with a pixel at a place: the walks of both packages.
-/
import Derived.Test.YtkcabllnlbcgdaaSce
import Derived.Test.YtkcabllnlbcgdaaFam
import Derived.Test.YtkcabllnlbcgdaaTou
namespace Go.Proofs.Ytkcabllnlbcgdaa
open Go.RowKit
set_option linter.unusedVariables false
set_option linter.unusedSimpArgs false
theorem onK_step (ss : List Spr) (y : Int) (k : Nat) : onK ss y (k + 1) = if inB (y - (ss.getD k Spr.z).Y) 0 7 && decide ((onK ss y k).length < 4) then onK ss y k ++ [(k : Int)] else onK ss y k := rfl
theorem cell_new2 (w : World) (o1 : Obj) (cs : Array Value) (t : TypeId) (i : Nat) : ((w.alloc o1).alloc (.cells cs t)).cell? ⟨w.heap.size + 1, i, none⟩ = cs[i]? := by
  have := cell_new (w.alloc o1) cs t i
  rwa [show (w.alloc o1).heap.size = w.heap.size + 1 by simp] at this
set_option maxRecDepth 20000 in
set_option maxHeartbeats 2000000 in
theorem onLine_any (A : Option Addr) (n c : Nat) (ss : List Spr) (y : Int) (w : World) (h : SpRd w w.heap.size A n ss) (hn : n ≤ 1000) (hy : 0 ≤ y ∧ y < 16) (hs : ∀ k, k < n → -16 ≤ (ss.getD k Spr.z).Y ∧ (ss.getD k Spr.z).Y ≤ 64) :
    Calls Try.prog 91 #[.slice A n c, .int .i64 y] w (Gives w (onP ss y)) := by
  have hl := h.1
  have H := Lib.hid h
  obtain ⟨y0, y1⟩ := hy
  have HSY := Lib.hid hs
  clear h hs
  unfold onP
  rw [hl]
  go_enter Try.func91, Try.ntmps91
  go_wp2_with fail
  go_loopw [5, 10] (fun out i wr => ∃ (k : Nat) (A' : Option Addr) (c' : Nat), k ≤ n ∧ out = .slice A' (onK ss y k).length c' ∧ i = .int .i64 k ∧ wr.ownsRow w.heap.size 3 1 (.slice A' (onK ss y k).length c') (onK ss y k).length (iv (onK ss y k)) ∧ Below w.heap.size w wr) (fun _ i _ => n - (intOf i).toNat)
  case atStart => exact ⟨0, _, _, Nat.zero_le _, rfl, rfl, World.ownsRow_nil _ _ _ _, Below.refl _ _⟩
  case round =>
    obtain ⟨k, A', c', hk, rfl, rfl, hown, hb⟩ := hrel
    by_cases hlt : k < n
    · obtain ⟨b, off, e1, hb1, hc⟩ := (H.out.below hb).spot hlt
      have hst := onK_step ss y k
      have hol := onK_len ss y k
      obtain ⟨Y0, Y1⟩ := HSY.out k hlt
      obtain ⟨o, ho⟩ : ∃ o, onK ss y k = o := ⟨_, rfl⟩
      rw [ho] at hst hol hown ⊢
      generalize ss.getD k Spr.z = s at hc hst Y0 Y1
      obtain ⟨X, Y, N, ac, dn, be⟩ := s
      obtain ⟨c0, c1, c2, c3, c4, c5⟩ := spc_of hc
      simp only [] at c0 c1 c2 c3 c4 c5 hst Y0 Y1
      have q0 : (0 : Int) ≤ (k : Int) := by omega
      have q1 : (k : Int) < (n : Int) := by omega
      have hz : w.heap.size ≤ wr.heap.size := hb.size
      have hne : b ≠ wr.heap.size := by omega
      have HBEL := Lib.hid hb
      have HO := Lib.hid hown
      have HST := Lib.hid hst
      have e1 := Lib.hid e1
      clear hc hb hown hst
      have e3 := e1.out
      subst e3
      replace ho := Lib.hid ho
      cases hin : inB (y - Y) 0 7
      · have hres := Lib.hid (show onK ss y (k + 1) = o by rw [HST.out, hin]; simp)
        go_wp2_with (go_at_call 53; refine (within_any _ _ _ _).mono ?_; rintro e w' ⟨rfl, rfl⟩; rw [hin])
        go_roundw
        case rel => exact ⟨k + 1, A', c', by omega, by rw [hres.out], by go_num, by rw [hres.out]; exact HO.out.alloc _, HBEL.out.alloc hz _⟩
        case measure => simp [intOf]; omega
      · by_cases h4 : o.length < 4
        · have hres := Lib.hid (show onK ss y (k + 1) = o ++ [(k : Int)] by rw [HST.out, hin]; simp [h4])
          have h4i : (o.length : Int) < 4 := by omega
          go_wp2_with (first | (go_at_call 53; refine (within_any _ _ _ _).mono ?_; rintro e w' ⟨rfl, rfl⟩; rw [hin]) | (at_builtin; refine push_own _ rfl _ _ rfl w.heap.size o.length c' (wr.heap.size + 1) 1 A' o (k : Int) rfl rfl ((HO.out.alloc _).alloc _) (cell_new2 _ _ _ _ 0) (by omega) (by simp; omega) ?_; intro A3 c3' w3 hown3 hb3; replace hown3 := Lib.hid hown3; replace hb3 := Lib.hid hb3))
          go_roundw
          case rel => exact ⟨k + 1, A3, c3', by omega, by rw [hres.out]; simp, by go_num, by rw [hres.out]; simpa using hown3.out, ((HBEL.out.alloc hz _).alloc (by simp; omega) _).trans hb3.out⟩
          case measure => simp [intOf]; omega
        · have hres := Lib.hid (show onK ss y (k + 1) = o by rw [HST.out, hin]; simp [h4])
          have h4i : ¬ (o.length : Int) < 4 := by omega
          go_wp2_with (go_at_call 53; refine (within_any _ _ _ _).mono ?_; rintro e w' ⟨rfl, rfl⟩; rw [hin])
          go_roundw
          case rel => exact ⟨k + 1, A', c', by omega, by rw [hres.out], by go_num, by rw [hres.out]; exact HO.out.alloc _, HBEL.out.alloc hz _⟩
          case measure => simp [intOf]; omega
    · obtain rfl : k = n := by omega
      replace hown := Lib.hid hown
      replace hb := Lib.hid hb
      go_wp2_with fail
      go_ret
      exact ⟨_, _, rfl, hown.out, hb.out⟩
set_option maxRecDepth 20000 in
set_option maxHeartbeats 2000000 in
theorem l11On_any (A : Option Addr) (n c : Nat) (ss : List Spr) (y : Int) (w : World) (h : SpRd w w.heap.size A n ss) (hn : n ≤ 1000) (hy : 0 ≤ y ∧ y < 16) (hs : ∀ k, k < n → -16 ≤ (ss.getD k Spr.z).Y ∧ (ss.getD k Spr.z).Y ≤ 64) :
    Calls Try.prog 68 #[.slice A n c, .int .i64 y] w (Gives w (onP ss y)) := by
  have HOE : Hid (∀ W : World, (W.alloc (.cells #[] 3)).ownsRow W.heap.size 3 1 (.slice (some ⟨W.heap.size, 0, none⟩) 0 0) 0 (iv [])) := Lib.hid fun W => World.ownsRow_lit W #[] 0 (Nat.le_refl _) (by simp [maxLen]) rfl
  have hl := h.1
  have H := Lib.hid h
  obtain ⟨y0, y1⟩ := hy
  have HSY := Lib.hid hs
  clear h hs
  go_enter Try.func68, Try.ntmps68
  go_wp2_with fail
  go_loopw [5, 6] (fun out i wr => ∃ (k : Nat) (A' : Option Addr) (c' : Nat), k ≤ n ∧ out = .slice A' (onK ss y k).length c' ∧ i = .int .i64 k ∧ wr.ownsRow w.heap.size 3 1 (.slice A' (onK ss y k).length c') (onK ss y k).length (iv (onK ss y k)) ∧ Below w.heap.size w wr) (fun _ i _ => n - (intOf i).toNat)
  case atStart => exact ⟨0, _, _, Nat.zero_le _, rfl, rfl, HOE.out _, (Below.refl _ _).alloc (Nat.le_refl _) _⟩
  case round =>
    obtain ⟨k, A', c', hk, rfl, rfl, hown, hb⟩ := hrel
    have hol := onK_len ss y k
    by_cases hlt : k < n
    · by_cases h4 : (onK ss y k).length < 4
      · obtain ⟨b, off, e1, hb1, hc⟩ := (H.out.below hb).spot hlt
        have hst := onK_step ss y k
        obtain ⟨Y0, Y1⟩ := HSY.out k hlt
        obtain ⟨o, ho⟩ : ∃ o, onK ss y k = o := ⟨_, rfl⟩
        rw [ho] at hst hol hown h4 ⊢
        generalize ss.getD k Spr.z = s at hc hst Y0 Y1
        obtain ⟨X, Y, N, ac, dn, be⟩ := s
        obtain ⟨c0, c1, c2, c3, c4, c5⟩ := spc_of hc
        simp only [] at c0 c1 c2 c3 c4 c5 hst Y0 Y1
        have q0 : (0 : Int) ≤ (k : Int) := by omega
        have q1 : (k : Int) < (n : Int) := by omega
        have hz : w.heap.size ≤ wr.heap.size := hb.size
        have h4i : (o.length : Int) < 4 := by omega
        have HBEL := Lib.hid hb
        have HO := Lib.hid hown
        have HST := Lib.hid hst
        have e1 := Lib.hid e1
        clear hc hb hown hst
        have e3 := e1.out
        subst e3
        replace ho := Lib.hid ho
        cases hin : inB (y - Y) 0 7
        · have hres := Lib.hid (show onK ss y (k + 1) = o by rw [HST.out, hin]; simp)
          go_wp2_with (go_at_call 49; refine (l1In_any _ _ _ _).mono ?_; rintro e w' ⟨rfl, rfl⟩; rw [hin])
          go_roundw
          case rel => exact ⟨k + 1, A', c', by omega, by rw [hres.out], by go_num, by rw [hres.out]; exact HO.out, HBEL.out⟩
          case measure => simp [intOf]; omega
        · have hres := Lib.hid (show onK ss y (k + 1) = o ++ [(k : Int)] by rw [HST.out, hin]; simp [h4])
          go_wp2_with (first | (go_at_call 49; refine (l1In_any _ _ _ _).mono ?_; rintro e w' ⟨rfl, rfl⟩; rw [hin]) | (at_builtin; refine push_own _ rfl _ _ rfl w.heap.size o.length c' wr.heap.size 1 A' o (k : Int) rfl rfl (HO.out.alloc _) (cell_new _ _ _ 0) (by omega) (by simp; omega) ?_; intro A3 c3' w3 hown3 hb3; replace hown3 := Lib.hid hown3; replace hb3 := Lib.hid hb3))
          go_roundw
          case rel => exact ⟨k + 1, A3, c3', by omega, by rw [hres.out]; simp, by go_num, by rw [hres.out]; simpa using hown3.out, (HBEL.out.alloc hz _).trans hb3.out⟩
          case measure => simp [intOf]; omega
      · have hp := onP_stop (y := y) (k := k) (by omega) (show 4 ≤ (onK ss y k).length by omega)
        have h4i : ¬ ((onK ss y k).length : Int) < 4 := by omega
        have q1 : (k : Int) < (n : Int) := by omega
        rw [← hp]
        replace hp := Lib.hid hp
        replace hown := Lib.hid hown
        replace hb := Lib.hid hb
        go_wp2_with fail
        go_ret
        rw [← hp.out]
        exact ⟨_, _, rfl, hown.out, hb.out⟩
    · obtain rfl : k = n := by omega
      replace hown := Lib.hid hown
      replace hb := Lib.hid hb
      have hp := Lib.hid (show onP ss y = onK ss y k by unfold onP; rw [hl])
      go_wp2_with fail
      go_ret
      rw [hp.out]
      exact ⟨_, _, rfl, hown.out, hb.out⟩
/-- What the walks of the first sprite need. -/
structure AtH (w : World) (A : Option Addr) (n : Nat) (ss : List Spr) (T : Option Addr) (tn : Nat) (ts : List (List Int)) (S : Option Addr) (on : List Int) : Prop where
  sp : SpRd w w.heap.size A n ss
  ti : TiRd w w.heap.size T tn ts
  lst : Ints w w.heap.size S on.length on
  nn : n ≤ 1000
  l4 : on.length ≤ 4
  mem : ∀ k (h : k < on.length), ∃ i : Nat, on[k] = (i : Int) ∧ i < ss.length
  fit : ∀ k, k < ss.length → (-16 ≤ (ss.getD k Spr.z).X ∧ (ss.getD k Spr.z).X ≤ 64) ∧ (-16 ≤ (ss.getD k Spr.z).Y ∧ (ss.getD k Spr.z).Y ≤ 64) ∧ 0 ≤ (ss.getD k Spr.z).N ∧ (ss.getD k Spr.z).N ≤ (ts.length : Int) - 1
theorem AtH.below {w w' : World} {A : Option Addr} {n : Nat} {ss : List Spr} {T : Option Addr} {tn : Nat} {ts : List (List Int)} {S : Option Addr} {on : List Int} (h : AtH w A n ss T tn ts S on) (b : Below w.heap.size w w') : AtH w' A n ss T tn ts S on :=
  ⟨(h.sp.below b).more b.size, (h.ti.below b).more b.size, (h.lst.below b).more b.size, h.nn, h.l4, h.mem, h.fit⟩
/-- Its pixel. -/
def atV (ss : List Spr) (ts : List (List Int)) (x y : Int) (on : List Int) : Int := if atP ss ts x y on < 0 then 0 else spV ts (ss.getD (atP ss ts x y on).toNat Spr.z) x y
set_option maxRecDepth 20000 in
set_option maxHeartbeats 2000000 in
theorem spriteAt_any (A : Option Addr) (n c : Nat) (ss : List Spr) (T : Option Addr) (tn tc : Nat) (ts : List (List Int)) (S : Option Addr) (sc : Nat) (on : List Int) (x y : Int) (w : World) (h : AtH w A n ss T tn ts S on) (hx : 0 ≤ x ∧ x ≤ 32) (hy : 0 ≤ y ∧ y < 16) :
    Calls Try.prog 92 #[.slice A n c, .slice T tn tc, .slice S on.length sc, .int .i64 x, .int .i64 y] w fun e w' => e = .returned (.tuple #[.int .i64 (atP ss ts x y on), .int .i64 (atV ss ts x y on)]) ∧ Below w.heap.size w w' := by
  have HH := Lib.hid h
  have hnn := h.nn
  have hl4 := h.l4
  have hsl := h.sp.1
  have H0 := Lib.hid hx
  have H1 := Lib.hid hy
  clear h hx hy
  go_enter Try.func92, Try.ntmps92
  go_wp2_with fail
  go_loopw [17] (fun i wr => ∃ k : Nat, k ≤ on.length ∧ i = .int .i64 k ∧ atP ss ts x y on = atP ss ts x y (on.drop k) ∧ Below w.heap.size w wr) (fun i _ => on.length - (intOf i).toNat)
  case atStart => exact ⟨0, Nat.zero_le _, rfl, rfl, Below.refl _ _⟩
  case round =>
    obtain ⟨k, hk, rfl, hall, hb⟩ := hrel
    by_cases hlt : k < on.length
    · obtain ⟨i, hi, hil⟩ := HH.out.mem k hlt
      have hd := atP_drop (ss := ss) (ts := ts) (x := x) (y := y) hlt hi
      obtain ⟨ad, hS, hab, hac⟩ := (HH.out.below hb).lst.at_ hlt
      rw [hi] at hac
      subst hS
      obtain ⟨b, off, hA, hb1, hc⟩ := (HH.out.below hb).sp.spot (k := i) (by omega)
      obtain ⟨fX, fY, fN⟩ := HH.out.fit i hil
      obtain ⟨s, hs⟩ : ∃ s, ss.getD i Spr.z = s := ⟨_, rfl⟩
      rw [hs] at hc hd fX fY fN
      obtain ⟨c0, c1, c2, c3, c4, c5⟩ := spc_of hc
      have q0 : (0 : Int) ≤ (k : Int) := by omega
      have q1 : (k : Int) < (on.length : Int) := by omega
      have q2 : (0 : Int) ≤ (i : Int) := by omega
      have q3 : (i : Int) < (n : Int) := by omega
      have HTI := Lib.hid (HH.out.below hb).ti
      have HB := Lib.hid hb
      have HALL := Lib.hid hall
      have HD := Lib.hid hd
      have FX := Lib.hid fX
      have FY := Lib.hid fY
      have FN := Lib.hid fN
      have HS := Lib.hid hs
      have HI := Lib.hid hi
      subst hA
      clear hc hb hall hd fX fY fN hs hi
      obtain ⟨v, hv⟩ : ∃ v, spV ts s x y = v := ⟨_, rfl⟩
      by_cases v0 : v = 0
      · subst v0
        have hn2 := Lib.hid (show atP ss ts x y on = atP ss ts x y (on.drop (k + 1)) by rw [HALL.out, HD.out, if_pos hv])
        go_wp2_with (go_at_call 79; refine (spritePixel_any s T tn tc ts x y _ HTI.out FN.out FX.out FY.out H0.out H1.out).mono ?_; rintro e w5 ⟨rfl, b5⟩; rw [hv]; replace b5 := Lib.hid b5)
        go_roundw
        case rel => exact ⟨k + 1, by omega, by go_num, hn2.out, below_step HB.out b5.out HB.out.size⟩
        case measure => simp [intOf]; omega
      · have v1 : (v != 0) = true := by simpa using v0
        have hn2 := Lib.hid (show atP ss ts x y on = (i : Int) by rw [HALL.out, HD.out, if_neg (by rw [hv]; exact v0)])
        have hn3 := Lib.hid (show atV ss ts x y on = v by unfold atV; rw [hn2.out, if_neg (by omega), Int.toNat_natCast, HS.out, hv])
        go_wp2_with (go_at_call 79; refine (spritePixel_any s T tn tc ts x y _ HTI.out FN.out FX.out FY.out H0.out H1.out).mono ?_; rintro e w5 ⟨rfl, b5⟩; rw [hv]; replace b5 := Lib.hid b5)
        refine bodyPost_ret (results_tmp2 (by rfl) _ _ _) rfl ?_
        rw [hn2.out, hn3.out]
        exact ⟨rfl, below_step HB.out b5.out HB.out.size⟩
    · obtain rfl : k = on.length := by omega
      have hn2 := Lib.hid (show atP ss ts x y on = -1 by rw [hall, List.drop_eq_nil_of_le (Nat.le_refl _)]; rfl)
      have hn3 := Lib.hid (show atV ss ts x y on = 0 by unfold atV; rw [hn2.out, if_pos (by omega)])
      clear hall
      replace hb := Lib.hid hb
      go_wp2_with fail
      refine bodyPost_ret (results_tmp2 (by rfl) _ _ _) rfl ?_
      rw [hn2.out, hn3.out]
      exact ⟨rfl, hb.out⟩
set_option maxRecDepth 20000 in
set_option maxHeartbeats 2000000 in
theorem l11At_any (A : Option Addr) (n c : Nat) (ss : List Spr) (T : Option Addr) (tn tc : Nat) (ts : List (List Int)) (S : Option Addr) (sc : Nat) (on : List Int) (x y : Int) (w : World) (h : AtH w A n ss T tn ts S on) (hx : 0 ≤ x ∧ x ≤ 32) (hy : 0 ≤ y ∧ y < 16) :
    Calls Try.prog 88 #[.slice A n c, .slice T tn tc, .slice S on.length sc, .int .i64 x, .int .i64 y] w fun e w' => e = .returned (.int .i64 (atP ss ts x y on)) ∧ Below w.heap.size w w' := by
  have HH := Lib.hid h
  have hnn := h.nn
  have hl4 := h.l4
  have hsl := h.sp.1
  have H0 := Lib.hid hx
  have H1 := Lib.hid hy
  clear h hx hy
  go_enter Try.func88, Try.ntmps88
  go_wp2_with fail
  go_loopw [11] (fun i wr => ∃ k : Nat, k ≤ on.length ∧ i = .int .i64 k ∧ atP ss ts x y on = atP ss ts x y (on.drop k) ∧ Below w.heap.size w wr) (fun i _ => on.length - (intOf i).toNat)
  case atStart => exact ⟨0, Nat.zero_le _, rfl, rfl, Below.refl _ _⟩
  case round =>
    obtain ⟨k, hk, rfl, hall, hb⟩ := hrel
    by_cases hlt : k < on.length
    · obtain ⟨i, hi, hil⟩ := HH.out.mem k hlt
      have hd := atP_drop (ss := ss) (ts := ts) (x := x) (y := y) hlt hi
      obtain ⟨ad, hS, hab, hac⟩ := (HH.out.below hb).lst.at_ hlt
      rw [hi] at hac
      subst hS
      obtain ⟨b, off, hA, hb1, hc⟩ := (HH.out.below hb).sp.spot (k := i) (by omega)
      obtain ⟨fX, fY, fN⟩ := HH.out.fit i hil
      obtain ⟨s, hs⟩ : ∃ s, ss.getD i Spr.z = s := ⟨_, rfl⟩
      rw [hs] at hc hd fX fY fN
      obtain ⟨c0, c1, c2, c3, c4, c5⟩ := spc_of hc
      have q0 : (0 : Int) ≤ (k : Int) := by omega
      have q1 : (k : Int) < (on.length : Int) := by omega
      have q2 : (0 : Int) ≤ (i : Int) := by omega
      have q3 : (i : Int) < (n : Int) := by omega
      have HTI := Lib.hid (HH.out.below hb).ti
      have HB := Lib.hid hb
      have HALL := Lib.hid hall
      have HD := Lib.hid hd
      have FX := Lib.hid fX
      have FY := Lib.hid fY
      have FN := Lib.hid fN
      have HS := Lib.hid hs
      have HI := Lib.hid hi
      subst hA
      clear hc hb hall hd fX fY fN hs hi
      obtain ⟨v, hv⟩ : ∃ v, spV ts s x y = v := ⟨_, rfl⟩
      by_cases v0 : v = 0
      · subst v0
        have hn2 := Lib.hid (show atP ss ts x y on = atP ss ts x y (on.drop (k + 1)) by rw [HALL.out, HD.out, if_pos hv])
        go_wp2_with (go_at_call 78; refine (l11Value_any s T tn tc ts x y _ HTI.out FN.out FX.out FY.out H0.out H1.out).mono ?_; rintro e w5 ⟨rfl, b5⟩; rw [hv]; have hac2 := (b5.cell (Nat.lt_of_lt_of_le (by rw [block_of_add]; exact hab) (Nat.le_refl _))).trans hac; replace b5 := Lib.hid b5)
        go_roundw
        case rel => exact ⟨k + 1, by omega, by go_num, hn2.out, below_step HB.out b5.out HB.out.size⟩
        case measure => simp [intOf]; omega
      · have v1 : (v != 0) = true := by simpa using v0
        have hn2 := Lib.hid (show atP ss ts x y on = (i : Int) by rw [HALL.out, HD.out, if_neg (by rw [hv]; exact v0)])
        go_wp2_with (go_at_call 78; refine (l11Value_any s T tn tc ts x y _ HTI.out FN.out FX.out FY.out H0.out H1.out).mono ?_; rintro e w5 ⟨rfl, b5⟩; rw [hv]; have hac2 := (b5.cell (Nat.lt_of_lt_of_le (by rw [block_of_add]; exact hab) (Nat.le_refl _))).trans hac; replace b5 := Lib.hid b5)
        go_ret
        rw [hn2.out]
        exact ⟨rfl, below_step HB.out b5.out HB.out.size⟩
    · obtain rfl : k = on.length := by omega
      have hn2 := Lib.hid (show atP ss ts x y on = -1 by rw [hall, List.drop_eq_nil_of_le (Nat.le_refl _)]; rfl)
      clear hall
      replace hb := Lib.hid hb
      go_wp2_with fail
      go_ret
      rw [hn2.out]
      exact ⟨rfl, hb.out⟩
/-- What the walks of a scene's pixel need. -/
structure ScH (w : World) (f : Fld) (A : Option Addr) (n : Nat) (ss : List Spr) : Prop where
  fr : FRd w f
  sr : SpRd w w.heap.size A n ss
  ok : sceneB f ss = true
theorem ScH.below {w w' : World} {f : Fld} {A : Option Addr} {n : Nat} {ss : List Spr} (h : ScH w f A n ss) (b : Below w.heap.size w w') : ScH w' f A n ss := ⟨h.fr.below b, (h.sr.below b).more b.size, h.ok⟩
theorem ScH.fb {w : World} {f : Fld} {A : Option Addr} {n : Nat} {ss : List Spr} (h : ScH w f A n ss) : fieldB f = true := by have := h.ok; unfold sceneB at this; rw [Bool.and_eq_true] at this; exact this.1
theorem ScH.sb {w : World} {f : Fld} {A : Option Addr} {n : Nat} {ss : List Spr} (h : ScH w f A n ss) : spritesB ss f.ts = true := by have := h.ok; unfold sceneB at this; rw [Bool.and_eq_true] at this; exact this.2
theorem ScH.n12 {w : World} {f : Fld} {A : Option Addr} {n : Nat} {ss : List Spr} (h : ScH w f A n ss) : n ≤ 12 := by have := (spr_facts h.sb).1; have := h.sr.1; omega
theorem ScH.at_ {w : World} {f : Fld} {A : Option Addr} {n : Nat} {ss : List Spr} {S : Option Addr} {y : Int} (h : ScH w f A n ss) (hS : Ints w w.heap.size S (onP ss y).length (onP ss y)) : AtH w A n ss f.T f.tn f.ts S (onP ss y) :=
  ⟨h.sr, h.fr.tiles, hS, by have := h.n12; omega, onK_len ss y _, fun k hk => onP_get hk, (spr_facts h.sb).2.2⟩
theorem ScH.ys {w : World} {f : Fld} {A : Option Addr} {n : Nat} {ss : List Spr} (h : ScH w f A n ss) : ∀ k, k < n → -16 ≤ (ss.getD k Spr.z).Y ∧ (ss.getD k Spr.z).Y ≤ 64 := fun k hk => ((spr_facts h.sb).2.2 k (by rw [h.sr.1]; exact hk)).2.1
set_option maxRecDepth 20000 in
set_option maxHeartbeats 2000000 in
theorem l12Pixel_any (f : Fld) (A : Option Addr) (n c : Nat) (ss : List Spr) (S : Option Addr) (sc : Nat) (x y : Int) (w : World) (h : ScH w f A n ss) (hS : Ints w w.heap.size S (onP ss y).length (onP ss y)) (hx : 0 ≤ x ∧ x ≤ 32) (hy : 0 ≤ y ∧ y < 16) :
    Calls Try.prog 69 #[scV f A n c, .slice S (onP ss y).length sc, .int .i64 x, .int .i64 y] w fun e w' => e = .returned (.int .i64 (scP f ss x y)) ∧ Below w.heap.size w w' := by
  have hb0 : Below w.heap.size w (w.alloc (.cells #[.int .i64 f.W, .slice f.A f.n f.c, .slice f.T f.tn f.tc, .int .i64 f.sx, .int .i64 f.sy, .slice A n c] 61)) := (Below.refl _ _).alloc (Nat.le_refl _) _
  have X0 := Lib.hid (SBox.new w f A n c 61)
  have HBW := Lib.hid hb0
  have HB := Lib.hid (Below.refl (w.alloc (.cells #[.int .i64 f.W, .slice f.A f.n f.c, .slice f.T f.tn f.tc, .int .i64 f.sx, .int .i64 f.sy, .slice A n c] 61)).heap.size (w.alloc (.cells #[.int .i64 f.W, .slice f.A f.n f.c, .slice f.T f.tn f.tc, .int .i64 f.sx, .int .i64 f.sy, .slice A n c] 61)))
  have hfit := (spr_facts h.sb).2.2
  have htb := (spr_facts h.sb).2.1
  have hn12 := h.n12
  have hsl := h.sr.1
  have HH0 := Lib.hid (h.below hb0)
  have HH := Lib.hid (h.below hb0)
  have HS := Lib.hid ((hS.below hb0).more hb0.size)
  have H0 := Lib.hid hx
  have H1 := Lib.hid hy
  clear hb0 h hS hx hy
  obtain ⟨p, hp⟩ : ∃ p, pxAt f f.sx f.sy x y = p := ⟨_, rfl⟩
  have hscp : scP f ss x y = if atP ss f.ts x y (onP ss y) < 0 ∨ ((ss.getD (atP ss f.ts x y (onP ss y)).toNat Spr.z).be = true ∧ p ≠ 0) then p else 4 + spV f.ts (ss.getD (atP ss f.ts x y (onP ss y)).toNat Spr.z) x y := by unfold scP; rw [hp]
  rcases atP_on (ss := ss) (ts := f.ts) (x := x) (y := y) with hq | ⟨i, hq, hil, hne⟩
  · rw [hscp, hq, if_pos (.inl (by omega))]
    have US := Lib.hid (fun (_ : Unit) => trivial)
    have sbl := trivial
    unfold scV
    clear hscp
    go_enter Try.func69, Try.ntmps69
    go_wp2_with (first | (go_at_call 57; refine (l10Pixel_any f x y _ HH.out.fr HH.out.fb H0.out H1.out).mono ?_; rintro e w2 ⟨rfl, b⟩; rw [hp]; replace HB := Lib.hid (below_step HB.out b HB.out.size); replace HH := Lib.hid (HH.out.below b); replace HS := Lib.hid ((HS.out.below b).more b.size); obtain ⟨-, c0, c1, c2, c3, c4, c5⟩ := X0.out.below HB.out; clear b) | (go_at_call 88; refine (l11At_any A n c ss f.T f.tn f.tc f.ts S sc (onP ss y) x y _ (HH.out.at_ HS.out) H0.out H1.out).mono ?_; rintro e w3 ⟨rfl, b⟩; rw [hq]; replace HB := Lib.hid (below_step HB.out b HB.out.size); clear b))
    go_ret
    exact ⟨rfl, below_step HBW.out HB.out HBW.out.size⟩
  · obtain ⟨fX, fY, fN⟩ := hfit i hil
    obtain ⟨sb, so, hA, sbl, src⟩ := HH0.out.sr.spot (k := i) (by omega)
    obtain ⟨s, hs⟩ : ∃ s, ss.getD i Spr.z = s := ⟨_, rfl⟩
    rw [hq, Int.toNat_natCast, hs] at hscp
    rw [hs] at src fX fY fN
    obtain ⟨v, hv⟩ : ∃ v, spV f.ts s x y = v := ⟨_, rfl⟩
    have hvr := spV_px (s := s) (x := x) (y := y) htb
    rw [hv] at hscp hvr
    obtain ⟨v0, v3⟩ := hvr
    have US := Lib.hid (spc_of src)
    replace sbl := Lib.hid sbl
    have FX := Lib.hid fX
    have FY := Lib.hid fY
    have FN := Lib.hid fN
    have q2 : (0 : Int) ≤ (i : Int) := by omega
    have q3 : (i : Int) < (n : Int) := by omega
    clear src fX fY fN hfit hne hs
    subst hA
    obtain ⟨X, Y, N, ac, dn, be⟩ := s
    unfold scV
    cases be
    · rw [hscp, if_neg (by rintro (h | ⟨h, _⟩) <;> first | omega | cases h)]
      clear hscp
      go_enter Try.func69, Try.ntmps69
      go_wp2_with (first | (go_at_call 57; refine (l10Pixel_any f x y _ HH.out.fr HH.out.fb H0.out H1.out).mono ?_; rintro e w2 ⟨rfl, b⟩; rw [hp]; replace HB := Lib.hid (below_step HB.out b HB.out.size); replace HH := Lib.hid (HH.out.below b); replace HS := Lib.hid ((HS.out.below b).more b.size); obtain ⟨-, c0, c1, c2, c3, c4, c5⟩ := X0.out.below HB.out; clear b) | (go_at_call 88; refine (l11At_any _ n c ss f.T f.tn f.tc f.ts S sc (onP ss y) x y _ (HH.out.at_ HS.out) H0.out H1.out).mono ?_; rintro e w3 ⟨rfl, b⟩; rw [hq]; replace HB := Lib.hid (below_step HB.out b HB.out.size); replace HH := Lib.hid (HH.out.below b); obtain ⟨-, d0, d1, d2, d3, d4, d5⟩ := X0.out.below HB.out; obtain ⟨u0, u1, u2, u3, u4, u5⟩ := US.out.below HB.out sbl.out; clear b))
      obtain ⟨ι, hne, G, hall2, hsur⟩ := fam_of w3
      have g0 := fun i => (((X0.out.below HB.out).below (hall2 i)).c0)
      have g1 := fun i => (((X0.out.below HB.out).below (hall2 i)).c1)
      have g2 := fun i => (((X0.out.below HB.out).below (hall2 i)).c2)
      have g3 := fun i => (((X0.out.below HB.out).below (hall2 i)).c3)
      have g4 := fun i => (((X0.out.below HB.out).below (hall2 i)).c4)
      have g5 := fun i => (((X0.out.below HB.out).below (hall2 i)).c5)
      have UG := fun i => US.out.below (HB.out.trans ((hall2 i).mono HB.out.size)) sbl.out
      have k0 := fun i => (UG i).c0
      have k1 := fun i => (UG i).c1
      have k2 := fun i => (UG i).c2
      have k3 := fun i => (UG i).c3
      have k4 := fun i => (UG i).c4
      have k5 := fun i => (UG i).c5
      simp only [] at k0 k1 k2 k3 k4 k5
      clear UG c0 c1 c2 c3 c4 c5 d0 d1 d2 d3 d4 d5 u0 u1 u2 u3 u4 u5
      have H2 := Lib.hid hall2
      refine wp_region_fam G (by kernel_rfl) (by kernel_rfl) (hsur _ (Below.refl _ _).drew) ?_
      repeat (go_big_quiet_step (((go_at_call 78; exact fam_int hall2 hsur _ (l11Value_any ⟨X, Y, N, ac, dn, false⟩ f.T f.tn f.tc f.ts x y _ ((HH.out.fr.below (hall2 _)).tiles) FN.out FX.out FY.out H0.out H1.out) hv))))
      refine wpQuiet_nil ?_
      rintro _ ⟨nq, rfl⟩
      go_wp2_with fail
      go_ret
      exact ⟨rfl, below_step HBW.out (below_step HB.out (H2.out nq) HB.out.size) HBW.out.size⟩
    · by_cases p0 : p = 0
      · rw [hscp, if_neg (by rintro (h | ⟨_, h⟩) <;> first | omega | exact h p0)]
        clear hscp
        subst p0
        go_enter Try.func69, Try.ntmps69
        go_wp2_with (first | (go_at_call 57; refine (l10Pixel_any f x y _ HH.out.fr HH.out.fb H0.out H1.out).mono ?_; rintro e w2 ⟨rfl, b⟩; rw [hp]; replace HB := Lib.hid (below_step HB.out b HB.out.size); replace HH := Lib.hid (HH.out.below b); replace HS := Lib.hid ((HS.out.below b).more b.size); obtain ⟨-, c0, c1, c2, c3, c4, c5⟩ := X0.out.below HB.out; clear b) | (go_at_call 88; refine (l11At_any _ n c ss f.T f.tn f.tc f.ts S sc (onP ss y) x y _ (HH.out.at_ HS.out) H0.out H1.out).mono ?_; rintro e w3 ⟨rfl, b⟩; rw [hq]; replace HB := Lib.hid (below_step HB.out b HB.out.size); replace HH := Lib.hid (HH.out.below b); obtain ⟨-, d0, d1, d2, d3, d4, d5⟩ := X0.out.below HB.out; obtain ⟨u0, u1, u2, u3, u4, u5⟩ := US.out.below HB.out sbl.out; clear b))
        obtain ⟨ι, hne, G, hall2, hsur⟩ := fam_of w3
        have g0 := fun i => (((X0.out.below HB.out).below (hall2 i)).c0)
        have g1 := fun i => (((X0.out.below HB.out).below (hall2 i)).c1)
        have g2 := fun i => (((X0.out.below HB.out).below (hall2 i)).c2)
        have g3 := fun i => (((X0.out.below HB.out).below (hall2 i)).c3)
        have g4 := fun i => (((X0.out.below HB.out).below (hall2 i)).c4)
        have g5 := fun i => (((X0.out.below HB.out).below (hall2 i)).c5)
        have UG := fun i => US.out.below (HB.out.trans ((hall2 i).mono HB.out.size)) sbl.out
        have k0 := fun i => (UG i).c0
        have k1 := fun i => (UG i).c1
        have k2 := fun i => (UG i).c2
        have k3 := fun i => (UG i).c3
        have k4 := fun i => (UG i).c4
        have k5 := fun i => (UG i).c5
        simp only [] at k0 k1 k2 k3 k4 k5
        clear UG c0 c1 c2 c3 c4 c5 d0 d1 d2 d3 d4 d5 u0 u1 u2 u3 u4 u5
        have H2 := Lib.hid hall2
        refine wp_region_fam G (by kernel_rfl) (by kernel_rfl) (hsur _ (Below.refl _ _).drew) ?_
        repeat (go_big_quiet_step (((go_at_call 78; exact fam_int hall2 hsur _ (l11Value_any ⟨X, Y, N, ac, dn, true⟩ f.T f.tn f.tc f.ts x y _ ((HH.out.fr.below (hall2 _)).tiles) FN.out FX.out FY.out H0.out H1.out) hv))))
        refine wpQuiet_nil ?_
        rintro _ ⟨nq, rfl⟩
        go_wp2_with fail
        go_ret
        exact ⟨rfl, below_step HBW.out (below_step HB.out (H2.out nq) HB.out.size) HBW.out.size⟩
      · rw [hscp, if_pos (.inr ⟨rfl, p0⟩)]
        clear hscp
        have p1 : (p != 0) = true := by simpa using p0
        go_enter Try.func69, Try.ntmps69
        go_wp2_with (first | (go_at_call 57; refine (l10Pixel_any f x y _ HH.out.fr HH.out.fb H0.out H1.out).mono ?_; rintro e w2 ⟨rfl, b⟩; rw [hp]; replace HB := Lib.hid (below_step HB.out b HB.out.size); replace HH := Lib.hid (HH.out.below b); replace HS := Lib.hid ((HS.out.below b).more b.size); obtain ⟨-, c0, c1, c2, c3, c4, c5⟩ := X0.out.below HB.out; clear b) | (go_at_call 88; refine (l11At_any _ n c ss f.T f.tn f.tc f.ts S sc (onP ss y) x y _ (HH.out.at_ HS.out) H0.out H1.out).mono ?_; rintro e w3 ⟨rfl, b⟩; rw [hq]; replace HB := Lib.hid (below_step HB.out b HB.out.size); replace HH := Lib.hid (HH.out.below b); obtain ⟨-, d0, d1, d2, d3, d4, d5⟩ := X0.out.below HB.out; obtain ⟨u0, u1, u2, u3, u4, u5⟩ := US.out.below HB.out sbl.out; clear b))
        go_ret
        exact ⟨rfl, below_step HBW.out HB.out HBW.out.size⟩
end Go.Proofs.Ytkcabllnlbcgdaa
