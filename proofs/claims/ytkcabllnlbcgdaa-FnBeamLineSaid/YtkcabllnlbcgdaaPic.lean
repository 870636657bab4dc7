/-
  Lines and pictures of scenes: the walks of both packages.
-/
import Derived.Test.YtkcabllnlbcgdaaLin
import Derived.Test.YtkcabllnlbcgdaaDrl
import Derived.Deep.RegionHeld3
namespace Go.Proofs.Ytkcabllnlbcgdaa
open Go.RowKit
set_option linter.unusedVariables false
set_option linter.unusedSimpArgs false
/-- The pixels of a line of a scene. -/
def scLine (f : Fld) (ss : List Spr) (y : Int) : List Int := (List.range 32).map fun (k : Nat) => scP f ss (k : Int) y
/-- .. while it is drawn: p pixels have been mended. -/
def scRow (f : Fld) (ss : List Spr) (y : Int) (p : Nat) : List Int := (List.range 32).map fun (k : Nat) => if k < p then scP f ss (k : Int) y else pxAt f f.sx f.sy (k : Int) y
theorem scLine_len (f : Fld) (ss : List Spr) (y : Int) : (scLine f ss y).length = 32 := by simp [scLine]
theorem scRow_len (f : Fld) (ss : List Spr) (y : Int) (p : Nat) : (scRow f ss y p).length = 32 := by simp [scRow]
theorem scRow_zero (f : Fld) (ss : List Spr) (y : Int) : scRow f ss y 0 = lineP f f.sx f.sy y 0 32 := by
  unfold scRow lineP
  refine List.map_congr_left fun k hk => ?_
  rw [if_neg (by omega), Int.zero_add]
theorem scRow_all (f : Fld) (ss : List Spr) (y : Int) : scRow f ss y 32 = scLine f ss y := by
  unfold scRow scLine
  refine List.map_congr_left fun k hk => ?_
  rw [if_pos (List.mem_range.1 hk)]
theorem scRow_get {f : Fld} {ss : List Spr} {y : Int} {p k : Nat} (hk : k < 32) : (scRow f ss y p)[k]? = some (if k < p then scP f ss (k : Int) y else pxAt f f.sx f.sy (k : Int) y) := by
  unfold scRow
  rw [List.getElem?_map, List.getElem?_range hk]; rfl
theorem scLine_get {f : Fld} {ss : List Spr} {y : Int} {k : Nat} (hk : k < 32) : (scLine f ss y)[k]? = some (scP f ss (k : Int) y) := by
  unfold scLine
  rw [List.getElem?_map, List.getElem?_range hk]; rfl
theorem scRow_set {f : Fld} {ss : List Spr} {y : Int} {p : Nat} (hp : p < 32) : (scRow f ss y p).set p (scP f ss (p : Int) y) = scRow f ss y (p + 1) := by
  apply List.ext_getElem?
  intro k
  rcases Nat.lt_or_ge k 32 with h | h
  · rw [List.getElem?_set, scRow_get h]
    by_cases hk : p = k
    · subst hk
      rw [if_pos rfl, if_pos (by rw [scRow_len]; exact hp), scRow_get hp, if_pos (by omega)]
    · rw [if_neg hk, scRow_get h]
      by_cases h2 : k < p
      · rw [if_pos h2, if_pos (by omega)]
      · rw [if_neg h2, if_neg (by omega)]
  · rw [List.getElem?_eq_none (by simp [scRow_len]; exact h), List.getElem?_eq_none (by rw [scRow_len]; exact h)]
theorem scRow_skip {f : Fld} {ss : List Spr} {y : Int} {p : Nat} (hp : p < 32) (h : scP f ss (p : Int) y = pxAt f f.sx f.sy (p : Int) y) : scRow f ss y (p + 1) = scRow f ss y p := by
  rw [← scRow_set hp, h]
  apply List.ext_getElem?
  intro k
  rw [List.getElem?_set]
  split
  · rename_i e
    subst e
    rw [if_pos (by rw [scRow_len]; exact hp), scRow_get hp, if_neg (by omega)]
  · rfl
/-- make, at a step of a region that draws. -/
theorem step_make0 {P : Program} {o : Oper} {a : Act} {K : Act → World → Prop} {Q : Exit → Act → World → Prop} (w : World) (l c : Operand) (t : TypeId) (hop : o.op = Op.makeSlice t l c)
    (base : Nat) (e : TypeId) (i : TypeInfo) (z : Value) (size : Nat) (h1 : P.underlying t = some (.slice e)) (h2 : P.info? e = some i) (h3 : i.zero = some z) (h4 : i.size = size)
    (n : Nat) (hl : a.eval l = .int .i64 0) (hc : a.eval c = .int .i64 (n : Int)) (b2 : i.bytes * n ≤ 281474976710656) (b3 : n ≤ maxLen) (b4 : base ≤ w.heap.size)
    (hK : ∀ w', w'.ownsRow base e size (.slice (some ⟨w.heap.size, 0, none⟩) 0 n) 0 [] → Below w.heap.size w w' → K (a.put o.dst (.slice (some ⟨w.heap.size, 0, none⟩) 0 n)) w') : o.wp P a w K Q := by
  obtain ⟨w', hrun, r1, r2⟩ := run_make_own (P := P) w base t e i z size h1 h2 h3 h4 .i64 .i64 n b2 b3 b4
  unfold Oper.wp
  simp [execOp, hop, hl, hc, hrun, Result.andThen]
  exact hK _ r1 (below_of_grown r2 (Nat.le_refl _) (by intro k hk; cases hk))
theorem drawLine32 (f : Fld) (b : Nat) (sx sy y : Int) (base c : Nat) (A : Option Addr) (w : World) (h : FRdB w base f) (hb : FBox w b f) (hlt : b < base) (hf : fieldB f = true) (hsx : 0 ≤ sx ∧ sx ≤ 255) (hsy : 0 ≤ sy ∧ sy ≤ 255) (hy : 0 ≤ y ∧ y < 16)
    (ho : w.ownsRow base 3 1 (.slice A 0 c) 0 (iv [])) (hbase : base ≤ w.heap.size) :
    Calls Try.prog 55 #[.pointer (some ⟨b, 0, none⟩), .int .i64 sx, .int .i64 sy, .int .i64 y, .int .i64 0, .int .i64 32, .slice A 0 c] w fun e w' => ∃ A' c', e = .returned (.slice A' 32 c') ∧ w'.ownsRow base 3 1 (.slice A' 32 c') 32 (iv (lineP f sx sy y 0 32)) ∧ Below base w w' :=
  (drawLine_any f b sx sy y 0 32 base 0 c A [] w h hb hlt hf hsx hsy (by omega) (by omega) (by omega) hy ho (by omega) hbase).mono fun e w' ⟨A', c', h1, h2, h3⟩ => ⟨A', c', h1, h2, h3⟩
theorem step_make32 {o : Oper} {a : Act} {K : Act → World → Prop} {Q : Exit → Act → World → Prop} (w : World) (l c : Operand) (hop : o.op = Op.makeSlice 23 l c)
    (hl : a.eval l = .int .i64 0) (hc : a.eval c = .int .i64 32)
    (hK : ∀ w', w'.ownsRow w.heap.size 3 1 (.slice (some ⟨w.heap.size, 0, none⟩) 0 32) 0 (iv []) → Below w.heap.size w w' → K (a.put o.dst (.slice (some ⟨w.heap.size, 0, none⟩) 0 32)) w') : o.wp Try.prog a w K Q := by
  obtain ⟨i0, hi0, hz0, hz1, hz2⟩ := info_parts int_info
  exact step_make0 w l c 23 hop w.heap.size 3 i0 (.int .i64 0) 1 Try.underlying23 hi0 hz0 hz1 32 hl hc (by rw [hz2]; omega) (by simp only [maxLen]; omega) (Nat.le_refl _) hK
set_option maxRecDepth 20000 in
set_option maxHeartbeats 4000000 in
theorem sceneLine_any (f : Fld) (A : Option Addr) (n c : Nat) (ss : List Spr) (b : Nat) (y : Int) (w : World) (h : ScH w f A n ss) (hx : SBox w b f A n c) (hy : 0 ≤ y ∧ y < 16) :
    Calls Try.prog 72 #[.pointer (some ⟨b, 0, none⟩), .int .i64 y] w (Gives w (scLine f ss y)) := by
  have HH := Lib.hid h
  have HH0 := Lib.hid h
  have h12 := h.n12
  have X0 := Lib.hid hx
  have hfn := h.fr.hn
  have H1 := Lib.hid hy
  have HSX := Lib.hid (field_facts h.fb).2.2.2.2.1
  have HSY := Lib.hid (field_facts h.fb).2.2.2.2.2.1
  have hbl := hx.lt
  obtain ⟨-, c0, c1, c2, c3, c4, c5⟩ := hx
  clear h hy
  go_enter Try.func72, Try.ntmps72
  go_wp2_with fail
  go_region_held3 (fun w' => (w'.cell? ⟨b, 3, none⟩ = some (.int .i64 f.sx) ∧ w'.cell? ⟨b, 4, none⟩ = some (.int .i64 f.sy))) (first | exact ⟨c3, c4⟩ | exact ⟨(b6.cell hbl).trans c3, (b6.cell hbl).trans c4⟩) ((first | (refine step_make32 _ _ _ (by rfl) (by rfl) (by rfl) ?_; intro w5 o5 b5; have b6 : Below w.heap.size w w5 := (Below.refl _ _).drew.trans b5; replace o5 := Lib.hid o5; have D5 := Lib.hid (HH.out.fr.at.below b6); have XB := Lib.hid (X0.out.back.below b6); have hz5 := Lib.hid b6.size) | (go_at_call 55; refine (drawLine32 f b f.sx f.sy y w.heap.size 32 (some ⟨w.heap.size, 0, none⟩) w5 D5.out XB.out hbl HH.out.fb HSX.out HSY.out H1.out o5.out hz5.out).mono ?_; rintro e w7 ⟨A7, c7, rfl, o7, b7⟩; replace o7 := Lib.hid o7; have b8 := b6.trans b7; clear b6; have b6 := b8; clear b8)))
  replace HH := Lib.hid (HH.out.below b6)
  have HB := Lib.hid b6
  have O7 := o7
  obtain ⟨-, d0, d1, d2, d3, d4, d5⟩ := X0.out.below b6
  clear c0 c1 c2 c3 c4 c5 b6 D5 XB o5 b7 hz5 o7
  have HN := h12
  go_wp2_with fail
  refine (onLine_any A n c ss y _ HH.out.sr (by omega) H1.out HH.out.ys).mono ?_
  rintro e w8 ⟨S, sc, rfl, o8, b8⟩
  rcases own_block O7.out with ⟨_, h0, _⟩ | ⟨g, hA7, hg1, hg2⟩
  · omega
  subst hA7
  have O8 := Lib.hid o8
  replace O7 := Lib.hid (own_below O7.out b8)
  replace HB := Lib.hid (below_step HB.out b8 HB.out.size)
  have hz8 := Lib.hid b8.size
  clear o8 b8 d0 d1 d2 d3 d4 d5
  rw [← scRow_zero f ss y] at O7
  obtain ⟨on, hon⟩ : ∃ on, onP ss y = on := ⟨_, rfl⟩
  rw [hon] at O8 ⊢
  replace hon := Lib.hid hon
  go_wp2_with fail
  go_loopw [34] (fun i wr => ∃ p : Nat, p ≤ 32 ∧ i = .int .i64 p ∧ wr.ownsRow w.heap.size 3 1 (.slice (some ⟨g, 0, none⟩) 32 c7) 32 (iv (scRow f ss y p)) ∧ wr.ownsRow w7.heap.size 3 1 (.slice S on.length sc) on.length (iv on) ∧ Below w.heap.size w wr ∧ w7.heap.size ≤ wr.heap.size) (fun i _ => 32 - (intOf i).toNat)
  case atStart => exact ⟨0, Nat.zero_le _, rfl, O7.out, O8.out, HB.out, hz8.out⟩
  case round =>
    clear O7 O8 HB hz8
    obtain ⟨p, hp, rfl, o7, o8, hb, hz⟩ := hrel
    by_cases hlt : p < 32
    · have q0 : (0 : Int) ≤ (p : Int) := by omega
      have q1 : (p : Int) < 32 := by omega
      have X9 := Lib.hid (show (0 : Int) ≤ (p : Int) ∧ (p : Int) ≤ 32 by omega)
      have HW := HH0.out.below hb
      have HAT := Lib.hid (hon.out ▸ HW.at_ (S := S) (by rw [hon.out]; exact own_ints o8) : AtH wr A n ss f.T f.tn f.ts S on)
      obtain ⟨ι, hne, G, hall2, hsur⟩ := fam_of wr
      have XW := X0.out.below hb
      have g0 := fun i => (XW.below (hall2 i)).c0
      have g1 := fun i => (XW.below (hall2 i)).c1
      have g2 := fun i => (XW.below (hall2 i)).c2
      have g3 := fun i => (XW.below (hall2 i)).c3
      have g4 := fun i => (XW.below (hall2 i)).c4
      have g5 := fun i => (XW.below (hall2 i)).c5
      obtain ⟨px, hpx⟩ : ∃ px, pxAt f f.sx f.sy (p : Int) y = px := ⟨_, rfl⟩
      have hrow : (iv (scRow f ss y p))[p]? = some (.int .i64 px) := by
        unfold iv
        rw [List.getElem?_map, scRow_get hlt, if_neg (by omega), hpx]; rfl
      have hcell := fun i => ((own_below o7 (hall2 i)).cellAt p (by omega)).trans hrow
      have hfz := fun i => (own_below o7 (hall2 i)).frozenAt p
      have hscp : scP f ss (p : Int) y = if atP ss f.ts p y on < 0 ∨ ((ss.getD (atP ss f.ts p y on).toNat Spr.z).be = true ∧ px ≠ 0) then px else 4 + spV f.ts (ss.getD (atP ss f.ts p y on).toNat Spr.z) p y := by rw [← hon.out]; unfold scP; rw [hpx]
      have O7 := Lib.hid o7
      have O8 := Lib.hid o8
      have HB := Lib.hid hb
      have H2 := Lib.hid hall2
      clear o7 o8 hb hrow XW
      rcases atP_on (ss := ss) (ts := f.ts) (x := (p : Int)) (y := y) with hq | ⟨i, hq, hil, hne0⟩
      · rw [hon.out] at hq
        rw [hq, if_pos (.inl (by omega))] at hscp
        have hskip := Lib.hid (scRow_skip hlt (hscp.trans hpx.symm))
        have htup : Value.tuple #[.int .i64 (atP ss f.ts p y on), .int .i64 (atV ss f.ts p y on)] = .tuple #[.int .i64 (-1), .int .i64 0] := by
          unfold atV; rw [hq, if_pos (by omega)]
        clear hscp hpx hq
        go_wp2_with fail
        refine wp_region_fam G (by kernel_rfl) (by kernel_rfl) (hsur _ (Below.refl _ _).drew) ?_
        repeat (go_big_quiet_step ((go_at_call 92; exact fam_call hall2 hsur _ (spriteAt_any _ n c ss f.T f.tn f.tc f.ts S sc on p y _ (HAT.out.below (hall2 _)) X9.out H1.out) htup)))
        refine wpQuiet_nil ?_
        rintro _ ⟨nq, rfl⟩
        go_wp2_with fail
        go_roundw
        case rel => exact ⟨p + 1, by omega, by go_num, by rw [hskip.out]; exact own_below O7.out (H2.out nq), own_below O8.out (H2.out nq), below_step HB.out (H2.out nq) HB.out.size, Nat.le_trans hz (H2.out nq).size⟩
        case measure => simp [intOf]; omega
      · rw [hon.out] at hq
        obtain ⟨sb, so, hA, sbl, src⟩ := HW.sr.spot (k := i) (by have := HW.sr.1; omega)
        have hin : i < n := by have := HW.sr.1; omega
        have htb := (spr_facts HW.sb).2.1
        obtain ⟨s, hs⟩ : ∃ s, ss.getD i Spr.z = s := ⟨_, rfl⟩
        rw [hq, Int.toNat_natCast, hs] at hscp
        rw [hs] at src
        obtain ⟨v, hv⟩ : ∃ v, spV f.ts s p y = v := ⟨_, rfl⟩
        have hvr := spV_px (s := s) (x := (p : Int)) (y := y) htb
        rw [hv] at hscp hvr
        obtain ⟨v0, v3⟩ := hvr
        have htup : Value.tuple #[.int .i64 (atP ss f.ts p y on), .int .i64 (atV ss f.ts p y on)] = .tuple #[.int .i64 (i : Int), .int .i64 v] := by
          unfold atV; rw [hq, if_neg (by omega), Int.toNat_natCast, hs, hv]
        have u5 := fun k => ((hall2 k).cell sbl).trans (src 5 _ rfl)
        have q2 : (0 : Int) ≤ (i : Int) := by omega
        have q3 : (i : Int) < (n : Int) := by omega
        have HPX := Lib.hid hpx
        subst hA
        clear hs hq src hv hpx hne0
        obtain ⟨X, Y, N, ac, dn, be⟩ := s
        cases be
        · rw [if_neg (by rintro (h | ⟨h, _⟩) <;> first | omega | cases h)] at hscp
          have hset := Lib.hid (scRow_set (f := f) (ss := ss) (y := y) hlt)
          have hscp2 := Lib.hid hscp
          clear hscp
          go_wp2_with fail
          refine wp_region_fam G (by kernel_rfl) (by kernel_rfl) (hsur _ (Below.refl _ _).drew) ?_
          repeat (go_big_quiet_step ((go_at_call 92; exact fam_call hall2 hsur _ (spriteAt_any _ n c ss f.T f.tn f.tc f.ts S sc on p y _ (HAT.out.below (hall2 _)) X9.out H1.out) htup)))
          refine wpQuiet_nil ?_
          rintro _ ⟨nq, rfl⟩
          obtain ⟨s1, s2⟩ := (own_below O7.out (H2.out nq)).stored p (.int .i64 (4 + v))
          rw [iv_set, ← hscp2.out, hset.out] at s1
          have S1 := Lib.hid s1
          have S2 := Lib.hid s2
          clear s1 s2
          go_wp2_with fail
          go_roundw
          case rel =>
            refine ⟨p + 1, by omega, by go_num, ?_, ?_, ?_, ?_⟩
            · have := S1.out; rw [hscp2.out] at this; exact this
            · have := S2.out
              exact (own_below O8.out (H2.out nq)).kept this (.inr (fun e => by have := (O8.out.lt _ e).1; omega))
            · have := S2.out
              exact (below_step HB.out (H2.out nq) HB.out.size).grown this (below_step HB.out (H2.out nq) HB.out.size).size (by intro k hk; injection hk with hk; omega)
            · have := S2.out.size
              exact Nat.le_trans (Nat.le_trans hz (H2.out nq).size) (by simp [World.setCell])
          case measure => simp [intOf]; omega
        · by_cases p0 : px = 0
          · rw [if_neg (by rintro (h | ⟨_, h⟩) <;> first | omega | exact h p0)] at hscp
            subst p0
            have hset := Lib.hid (scRow_set (f := f) (ss := ss) (y := y) hlt)
            have hscp2 := Lib.hid hscp
            clear hscp
            go_wp2_with fail
            refine wp_region_fam G (by kernel_rfl) (by kernel_rfl) (hsur _ (Below.refl _ _).drew) ?_
            repeat (go_big_quiet_step ((go_at_call 92; exact fam_call hall2 hsur _ (spriteAt_any _ n c ss f.T f.tn f.tc f.ts S sc on p y _ (HAT.out.below (hall2 _)) X9.out H1.out) htup)))
            refine wpQuiet_nil ?_
            rintro _ ⟨nq, rfl⟩
            obtain ⟨s1, s2⟩ := (own_below O7.out (H2.out nq)).stored p (.int .i64 (4 + v))
            rw [iv_set, ← hscp2.out, hset.out] at s1
            have S1 := Lib.hid s1
            have S2 := Lib.hid s2
            clear s1 s2
            go_wp2_with fail
            go_roundw
            case rel =>
              refine ⟨p + 1, by omega, by go_num, ?_, ?_, ?_, ?_⟩
              · have := S1.out; rw [hscp2.out] at this; exact this
              · have := S2.out
                exact (own_below O8.out (H2.out nq)).kept this (.inr (fun e => by have := (O8.out.lt _ e).1; omega))
              · have := S2.out
                exact (below_step HB.out (H2.out nq) HB.out.size).grown this (below_step HB.out (H2.out nq) HB.out.size).size (by intro k hk; injection hk with hk; omega)
              · have := S2.out.size
                exact Nat.le_trans (Nat.le_trans hz (H2.out nq).size) (by simp [World.setCell])
            case measure => simp [intOf]; omega
          · rw [if_pos (.inr ⟨rfl, p0⟩)] at hscp
            have hskip := Lib.hid (scRow_skip hlt (hscp.trans HPX.out.symm))
            have p1 : (px == 0) = false := by simpa using p0
            clear hscp
            go_wp2_with fail
            refine wp_region_fam G (by kernel_rfl) (by kernel_rfl) (hsur _ (Below.refl _ _).drew) ?_
            repeat (go_big_quiet_step ((go_at_call 92; exact fam_call hall2 hsur _ (spriteAt_any _ n c ss f.T f.tn f.tc f.ts S sc on p y _ (HAT.out.below (hall2 _)) X9.out H1.out) htup)))
            refine wpQuiet_nil ?_
            rintro _ ⟨nq, rfl⟩
            go_wp2_with fail
            go_roundw
            case rel => exact ⟨p + 1, by omega, by go_num, by rw [hskip.out]; exact own_below O7.out (H2.out nq), own_below O8.out (H2.out nq), below_step HB.out (H2.out nq) HB.out.size, Nat.le_trans hz (H2.out nq).size⟩
            case measure => simp [intOf]; omega
    · obtain rfl : p = 32 := by omega
      rw [scRow_all] at o7
      replace o7 := Lib.hid o7
      replace hb := Lib.hid hb
      clear o8
      go_wp2_with fail
      go_ret
      exact ⟨some ⟨g, 0, none⟩, c7, by rw [scLine_len]; rfl, by rw [scLine_len]; exact o7.out, hb.out⟩
end Go.Proofs.Ytkcabllnlbcgdaa
