/-
  A stretch of a line of a background, drawn tile by tile. No condition but that the background is valid.
-/
import Derived.Test.YtkcabllnlbcgdaaPix
namespace Go.Proofs.Ytkcabllnlbcgdaa
open Go.RowKit
set_option linter.unusedVariables false
set_option linter.unusedSimpArgs false
/-- Pixels of a line, from a column on. -/
def lineP (f : Fld) (sx sy y a : Int) (m : Nat) : List Int := (List.range m).map fun (k : Nat) => pxAt f sx sy (a + (k : Int)) y
theorem lineP_len (f : Fld) (sx sy y a : Int) (m : Nat) : (lineP f sx sy y a m).length = m := by simp [lineP]
theorem lineP_zero (f : Fld) (sx sy y a : Int) : lineP f sx sy y a 0 = [] := rfl
theorem lineP_get {f : Fld} {sx sy y a : Int} {m k : Nat} (hk : k < m) : (lineP f sx sy y a m)[k]? = some (pxAt f sx sy (a + (k : Int)) y) := by
  unfold lineP
  rw [List.getElem?_map, List.getElem?_range hk]; rfl
theorem lineP_add (f : Fld) (sx sy y a : Int) (p m : Nat) : lineP f sx sy y a (p + m) = lineP f sx sy y a p ++ lineP f sx sy y (a + (p : Int)) m := by
  apply List.ext_getElem?
  intro k
  rcases Nat.lt_or_ge k p with h | h
  · rw [lineP_get (by omega), List.getElem?_append_left (by rw [lineP_len]; exact h), lineP_get h]
  · rw [List.getElem?_append_right (by rw [lineP_len]; exact h), lineP_len]
    rcases Nat.lt_or_ge k (p + m) with h2 | h2
    · rw [lineP_get h2, lineP_get (by omega)]
      congr 2; omega
    · rw [List.getElem?_eq_none (by rw [lineP_len]; omega), List.getElem?_eq_none (by rw [lineP_len]; omega)]
theorem lineP_snoc (f : Fld) (sx sy y a : Int) (p : Nat) : lineP f sx sy y a (p + 1) = lineP f sx sy y a p ++ [pxAt f sx sy (a + (p : Int)) y] := by
  rw [lineP_add]
  congr 1
  simp [lineP]
/-- Within a tile the pixels lie side by side. -/
theorem px_run {f : Fld} {sx sy x y h i j i8 j8 jw i7 j7 : Int} {q n r : Nat} (N : PxN f sx sy x y h i j i8 j8 jw i7 j7 q n r) {k : Nat} (hk : i7 + (k : Int) < 8) :
    pxAt f sx sy (x + (k : Int)) y = (f.ts.getD n []).getD (r + k) 0 := by
  have e2 := N.e2
  have e3 := N.e3
  have e1 := N.e1
  have W0 := N.W0
  have i0 := N.i0
  have iW : i < 8 * f.W := by rw [← e2]; exact Int.emod_lt_of_pos _ (by omega)
  have e4 := N.e4
  have e6 := N.e6
  have e5 := N.e5
  have e7 := N.e7
  have e8 := N.e8
  have e9 : (x + (k : Int) + sx) % (8 * f.W) = i + k := by
    rw [show x + (k : Int) + sx = (x + sx) + k by omega, ← Int.emod_add_emod, e2]
    exact Int.emod_eq_of_lt (by omega) (by omega)
  have a8 : (i + (k : Int)) / 8 = i8 := by omega
  have a7 : (i + (k : Int)) % 8 = i7 + k := by omega
  have q0 := N.q0
  have n0 := N.n0
  have r0 := N.r0
  unfold pxAt pxOf
  rw [e9, e1, e3, a8, a7, e5, e7, e8, q0, Int.toNat_natCast, n0, Int.toNat_natCast, show j7 * 8 + (i7 + (k : Int)) = ((r + k : Nat) : Int) by omega, Int.toNat_natCast]
theorem px_line {f : Fld} {sx sy x y h i j i8 j8 jw i7 j7 : Int} {q n r : Nat} (N : PxN f sx sy x y h i j i8 j8 jw i7 j7 q n r) (hl : (f.ts.getD n []).length = 64) {m : Nat} (hm : i7 + (m : Int) ≤ 8) :
    lineP f sx sy y x m = ((f.ts.getD n []).drop r).take m := by
  have r0 := N.r0
  have i70 := N.i70
  have j70 := N.j70
  apply List.ext_getElem?
  intro k
  rcases Nat.lt_or_ge k m with h1 | h1
  · rw [lineP_get h1, px_run N (by omega), List.getElem?_take_of_lt h1, List.getElem?_drop, List.getD_eq_getElem?_getD, List.getElem?_eq_getElem (by omega)]
    rfl
  · rw [List.getElem?_eq_none (by rw [lineP_len]; omega), List.getElem?_eq_none (by rw [List.length_take]; omega)]
/-- A background that lies below a block. -/
structure FRdB (w : World) (B : Nat) (f : Fld) : Prop where
  map : Ints w B f.A f.n f.ms
  tiles : TiRd w B f.T f.tn f.ts
  hn : f.n ≤ 100000000
  ht : f.tn ≤ 100000000
theorem FRdB.below {w w' : World} {B : Nat} {f : Fld} (h : FRdB w B f) (b : Below B w w') : FRdB w' B f := ⟨h.map.below b, h.tiles.below b, h.hn, h.ht⟩
theorem FRdB.rd {w : World} {B : Nat} {f : Fld} (h : FRdB w B f) (hB : B ≤ w.heap.size) : FRd w f := ⟨h.map.more hB, h.tiles.more hB, h.hn, h.ht⟩
theorem FRd.at {w : World} {f : Fld} (h : FRd w f) : FRdB w w.heap.size f := ⟨h.map, h.tiles, h.hn, h.ht⟩
/-- A stretch of a tile, as a slice. -/
theorem tile_cut {w : World} {B b off r m : Nat} {px : List Int} (hc : w.rangeAt b off (iv px)) (hl : px.length = 64) (hb : b < B) (hm : r + m ≤ 64) : Ints w B (some ⟨b, off + r, none⟩) m ((px.drop r).take m) := by
  refine ⟨by simp [iv_len, hl]; omega, fun _ => ⟨_, rfl, hb, fun k v hk => ?_⟩⟩
  rw [← iv_take, ← iv_drop] at hk
  have hk2 : k < m := by
    have := (List.getElem?_eq_some_iff.1 hk).1
    simp [iv_len, hl] at this; omega
  rw [List.getElem?_take_of_lt hk2, List.getElem?_drop] at hk
  have := hc (r + k) v hk
  rw [show ((⟨b, off + r, none⟩ : Addr).add k) = ⟨b, off + (r + k), none⟩ by unfold Addr.add; split <;> simp_all; omega]
  exact this
/-- What appends to a row change of what lay there: nothing but the row's own block. -/
structure Grew (w w' : World) (v v' : Value) : Prop where
  g : w.grownBy w' v.ownBlock
  b : v'.ownBlock = v.ownBlock ∨ ∀ k, v'.ownBlock = some k → w.heap.size ≤ k
theorem Grew.refl (w : World) (v : Value) : Grew w w v v := ⟨World.grownBy.refl w _, .inl rfl⟩
theorem Grew.drewN {w w' : World} {v v' : Value} (h : Grew w w' v v') (n : Nat) : Grew w (w'.drewN n) v v' := ⟨⟨h.g.os, h.g.tape, h.g.output, h.g.size, h.g.block⟩, h.b⟩
theorem Grew.trans {w w1 w2 : World} {v v1 v2 : Value} (h : Grew w w1 v v1) (k : Grew w1 w2 v1 v2) : Grew w w2 v v2 := by
  refine ⟨⟨k.g.os.trans h.g.os, k.g.tape.trans h.g.tape, k.g.output.trans h.g.output, Nat.le_trans h.g.size k.g.size, fun i hi hne => ?_⟩, ?_⟩
  · refine (k.g.block i (Nat.lt_of_lt_of_le hi h.g.size) fun e => ?_).trans (h.g.block i hi hne)
    rcases h.b with h1 | h1
    · exact hne (e.trans h1)
    · have := h1 i e.symm; omega
  · rcases k.b with h2 | h2
    · rcases h.b with h1 | h1
      · exact .inl (h2.trans h1)
      · exact .inr fun i hi => h1 i (h2 ▸ hi)
    · exact .inr fun i hi => Nat.le_trans h.g.size (h2 i hi)
set_option maxRecDepth 4000 in
/-- append(s, x...) of a list that only is read: what it changes. -/
theorem push_list_g {ops : Array Oper} {rest : List Oper} {o : Oper} {a : Act} {Q : Exit → Act → World → Prop} (w : World) (hgd : o.guard = none) (s x : Operand)
    (ho : o.op = .call { callee := .builtin .append, args := #[s, x], argTypes := #[23, 23] })
    (base n c m d B : Nat) (A : Option Addr) (ad : Addr) (xs ys : List Int) (hs : a.eval s = .slice A n c) (hx : a.eval x = .slice (some ad) m d)
    (hown : w.ownsRow base 3 1 (.slice A n c) n (iv xs)) (hy : Ints w B (some ad) m ys) (hn : n + m ≤ 1000000000) (hb : base ≤ w.heap.size)
    (h : ∀ A' c' w', w'.ownsRow base 3 1 (.slice A' (n + m) c') (n + m) (iv (xs ++ ys)) → Below base w w' → Grew w w' (.slice A n c) (.slice A' (n + m) c') → wpList Try.prog ops Q rest (a.put o.dst (.slice A' (n + m) c')) w') :
    wpList Try.prog ops Q (o :: rest) a w := by
  obtain ⟨i0, hi0, hz0, hz1, hz2⟩ := info_parts int_info
  refine wpList_append_own_at w hgd s x 23 ho base 3 i0 (.int .i64 0) 1 8 Try.underlying23 hi0 hz0 hz1 hz2 rfl (by omega) _ n (iv xs) hs hown ad m d (iv ys) hx hy.1 ?_ ?_ (by simp only [maxLen]; omega) (by omega) hb ?_
  · intro j u hj
    have hm : 0 < m := by
      obtain ⟨hk, _⟩ := iv_get hj
      have := hy.len; omega
    obtain ⟨ad', e, _, hc⟩ := hy.2 hm
    injection e with e
    subst e
    exact hc j u hj
  · intro u hu
    simp only [iv, List.mem_map] at hu
    obtain ⟨z, _, rfl⟩ := hu
    rfl
  · intro v' w' ho' hg' _ hat
    obtain ⟨A', c', rfl⟩ := own_form ho'
    rw [← iv_append] at ho'
    exact h A' c' w' ho' (below_of_grown hg' hb fun k hk => (hown.lt k hk).1) ⟨hg', hat.imp_right fun e k hk => by rw [e] at hk; injection hk with hk; omega⟩
theorem slice64 (W : World) (b o r m : Nat) (hr : r < 64) (h : (r : Int) + (m : Int) ≤ 64) : (Instr.sliceAt 81 (.pointer (some ⟨b, o, none⟩)) (some (.int .i64 (r : Int))) (some (.int .i64 ((r : Int) + (m : Int)))) none).run Try.prog W = .ok (.slice (some ⟨b, o + r, none⟩) m (64 - r)) W := by
  have hu := Try.underlying81
  have hal : Try.prog.arrayLen 81 = 64 := by simp [Program.arrayLen, hu]
  have hel : Try.prog.elem 81 = 3 := by simp [Program.elem, hu]
  rw [run_sliceAt_array_lh W 81 ⟨b, o, none⟩ (by rw [hal, hel]; exact hu) .i64 .i64 (r : Int) ((r : Int) + (m : Int)) (by omega) (by omega) (by rw [hal]; omega), hal, hel]
  have hi : (sizeOf 3).run Try.prog W = .ok 1 W := by
    have h1 : (Try.prog.info? 3).map (·.size) = some 1 := by kernel_rfl
    simp [sizeOf, typeInfo, go_sem]
    cases hq : Try.prog.info? 3 with
    | none => rw [hq] at h1; cases h1
    | some i => rw [hq] at h1; simp at h1; simp [hq, h1]
  rw [hi]
  have e1 : ((r : Int) + (m : Int)).toNat = r + m := by omega
  simp only [Result.andThen, slicedAt, Int.toNat_natCast, e1]
  rw [if_neg (by omega), Addr.add_mid, Nat.mul_one, Nat.add_sub_cancel_left]
set_option maxRecDepth 20000 in
set_option maxHeartbeats 2000000 in
theorem drawLine_at (f : Fld) (b : Nat) (sx sy y fr to : Int) (base n c : Nat) (A : Option Addr) (xs : List Int) (w : World) (h : FRdB w base f) (hb : FBox w b f) (hlt : b < base) (hf : fieldB f = true) (hsx : 0 ≤ sx ∧ sx ≤ 255) (hsy : 0 ≤ sy ∧ sy ≤ 255) (hfr : 0 ≤ fr) (hft : fr ≤ to) (hto : to ≤ 32) (hy : 0 ≤ y ∧ y < 16)
    (ho : w.ownsRow base 3 1 (.slice A n c) n (iv xs)) (hn : n ≤ 1000) (hbase : base ≤ w.heap.size) :
    Calls Try.prog 55 #[.pointer (some ⟨b, 0, none⟩), .int .i64 sx, .int .i64 sy, .int .i64 y, .int .i64 fr, .int .i64 to, .slice A n c] w fun e w' => ∃ A' c', e = .returned (.slice A' (n + (to - fr).toNat) c') ∧ w'.ownsRow base 3 1 (.slice A' (n + (to - fr).toNat) c') (n + (to - fr).toNat) (iv (xs ++ lineP f sx sy y fr (to - fr).toNat)) ∧ Below base w w' ∧ Grew w w' (.slice A n c) (.slice A' (n + (to - fr).toNat) c') := by
  obtain ⟨h', i, j, i8, j8, jw, i7, j7, q, nn, r, N⟩ := px_nums hf hsx hsy (show 0 ≤ fr ∧ fr ≤ 32 by omega) hy
  have HF := Lib.hid h
  have HBX := Lib.hid hb
  have HFB := Lib.hid hf
  have HN := Lib.hid N
  have W0 := N.W0
  have W8 := N.W8
  have h0 := N.h0
  have h8 := N.h8
  have e1 := N.e1
  have e1' := N.e1'
  have e3 := N.e3
  have e3' := N.e3'
  have j0 := N.j0
  have j64 := N.j64
  have hml : f.ms.length = f.n := h.map.len
  have hn1 := h.hn
  obtain ⟨bl, c0, c1, c2, -, -⟩ := hb
  rw [hml] at e1 e1'
  obtain ⟨sx0, sx1⟩ := hsx
  obtain ⟨sy0, sy1⟩ := hsy
  obtain ⟨y0, y1⟩ := hy
  have W1 : (f.W == 0) = false := by simp; omega
  have h1 : (h' == 0) = false := by simp; omega
  replace hft := Lib.hid hft
  replace hto := Lib.hid hto
  have HO := Lib.hid ho
  clear hf h N ho
  go_enter Try.func55, Try.ntmps55
  go_wp2_with fail
  go_quiet (fail)
  go_wp2_with fail
  replace HN := Lib.hid (And.intro HN.out.e1 HN.out.e3)
  go_loopw [6, 16] (fun out x wr => ∃ (p : Nat) (A' : Option Addr) (c' : Nat), fr + (p : Int) ≤ to ∧ x = .int .i64 (fr + (p : Int)) ∧ out = .slice A' (n + p) c' ∧ wr.ownsRow base 3 1 (.slice A' (n + p) c') (n + p) (iv (xs ++ lineP f sx sy y fr p)) ∧ Below base w wr ∧ Grew w wr (.slice A n c) (.slice A' (n + p) c')) (fun _ x _ => (to - intOf x).toNat)
  case atStart => exact ⟨0, A, c, by have := hft.out; simpa using this, by simp, rfl, by rw [lineP_zero, List.append_nil]; exact (HO.out : w.ownsRow _ _ _ _ _ _), below_drewN (Below.refl _ _) _, (Grew.refl _ _).drewN _⟩
  case round =>
    obtain ⟨p, A', c', hp, rfl, rfl, ho, hb, hgr⟩ := hrel
    replace hgr := Lib.hid hgr
    have hto' := hto.out
    clear c0 c1 c2
    by_cases hlt2 : fr + (p : Int) < to
    · obtain ⟨h2, i2, j2, i82, j82, jw2, i72, j72, q2, n2, r2, N⟩ := px_nums HFB.out ⟨sx0, sx1⟩ ⟨sy0, sy1⟩ (show 0 ≤ fr + (p : Int) ∧ fr + (p : Int) ≤ 32 by omega) ⟨y0, y1⟩
      obtain rfl : h2 = h' := N.e1.symm.trans HN.out.1
      obtain rfl : j2 = j := N.e3.symm.trans HN.out.2
      obtain ⟨-, -, -, -, -, -, i0, i64, -, -, e2, e2', -, -, e4, e4', e5, e5', e6, e6', e7, e7', e8, ⟨i80, i81⟩, ⟨j80, j81⟩, ⟨i70, i71⟩, ⟨j70, j71⟩, ⟨jw0, jw1⟩, q0, ql, n0, nl, r0, rl, px⟩ := id N
      obtain ⟨x, hx⟩ : ∃ x, fr + (p : Int) = x := ⟨_, rfl⟩
      obtain ⟨ad, hA, ab, ac⟩ := (HF.out.below hb).map.at_ (k := q2) (by rw [← hml]; exact ql)
      have eg : f.ms[q2] = (n2 : Int) := by rw [← n0, List.getD_eq_getElem?_getD, List.getElem?_eq_getElem ql, Option.getD_some]
      rw [eg] at ac
      have htn := (HF.out.below hb).tiles.1
      obtain ⟨tb, off, hT, tbl, tcl⟩ := (HF.out.below hb).tiles.spot (k := n2) (by omega)
      have tl := (HF.out.below hb).tiles.len (k := n2) (by omega)
      have c0 := (hb.cell (p := ⟨b, 0, none⟩) hlt).trans HBX.out.c0
      have c1 := (hb.cell (p := ⟨b, 1, none⟩) hlt).trans HBX.out.c1
      have c2 := (hb.cell (p := ⟨b, 2, none⟩) hlt).trans HBX.out.c2
      rw [hA] at c1
      rw [hT] at c2
      have q1 : (0 : Int) ≤ (q2 : Int) := by omega
      have q3 : (q2 : Int) < (f.n : Int) := by omega
      have n1 : (0 : Int) ≤ (n2 : Int) := by omega
      have n3 : (n2 : Int) < (f.tn : Int) := by omega
      have r1 : (0 : Int) ≤ (r2 : Int) := by omega
      have r3 : (r2 : Int) < 64 := by omega
      replace px := Lib.hid px
      replace N := Lib.hid N
      replace tcl := Lib.hid tcl
      replace tl := Lib.hid tl
      replace ho := Lib.hid ho
      replace hb := Lib.hid hb
      replace hA := Lib.hid hA
      replace hT := Lib.hid hT
      rw [hx] at e2 e2' hlt2
      clear eg n0
      have x0 : 0 ≤ x := by omega
      have x32 : x < 32 := by omega
      by_cases hm : 8 - i72 ≤ to - x
      · obtain ⟨m, em⟩ : ∃ m : Nat, 8 - i72 = (m : Int) := ⟨(8 - i72).toNat, by omega⟩
        rw [em] at hm
        have em2 : min (m : Int) (to - x) = (m : Int) := by omega
        have hmm : i72 + (m : Int) ≤ 8 := by omega
        have rm : (r2 : Int) + (m : Int) ≤ 64 := by omega
        have hsl := fun W => slice64 W tb (off + n2 * 64) r2 m rl rm
        have hbw : base ≤ wr.heap.size := Nat.le_trans hbase hb.out.size
        have hpn : n + p + m ≤ 1000000000 := by omega
        have HCT := Lib.hid (tile_cut (r := r2) (m := m) tcl.out tl.out tbl (by omega))
        rw [hx]
        replace hx := Lib.hid hx
        go_wp2_with fail
        go_quiet (fail)
        have HO2 := Lib.hid (show (wr.drewN nq).ownsRow base 3 1 (.slice A' (n + p) c') (n + p) (iv (xs ++ lineP f sx sy y fr p)) from ho.out)
        have HC2 := Lib.hid (show Ints (wr.drewN nq) base (some ⟨tb, off + n2 * 64 + r2, none⟩) m _ from HCT.out)
        clear ho
        go_wp2_with (at_builtin; refine push_list_g _ rfl _ _ rfl base (n + p) c' m (64 - r2) base A' ⟨tb, off + n2 * 64 + r2, none⟩ _ _ rfl rfl HO2.out HC2.out hpn hbw ?_; intro A5 c5 w5 o5 b5 g5; replace o5 := Lib.hid o5; replace b5 := Lib.hid b5; replace g5 := Lib.hid g5)
        go_roundw
        case rel =>
          refine ⟨p + m, A5, c5, ?_, ?_, ?_, ?_, (below_drewN hb.out nq).trans b5.out, ?_⟩
          · have := hx.out; push_cast; omega
          · have := hx.out
            congr 1
            push_cast
            omega
          · rw [Nat.add_assoc]
          · have h5 := o5.out
            rw [Nat.add_assoc, List.append_assoc, ← px_line N.out tl.out hmm, ← lineP_add] at h5
            exact h5
          · have h6 := (hgr.out.drewN nq).trans g5.out
            rw [Nat.add_assoc] at h6
            exact h6
        case measure => have := hx.out; simp [intOf]; omega
      · obtain ⟨m, em⟩ : ∃ m : Nat, to - x = (m : Int) := ⟨(to - x).toNat, by omega⟩
        rw [em] at hm
        have em2 : min (8 - i72) (m : Int) = (m : Int) := by omega
        have hmm : i72 + (m : Int) ≤ 8 := by omega
        have hm : (m : Int) ≤ to - x := by omega
        have rm : (r2 : Int) + (m : Int) ≤ 64 := by omega
        have hsl := fun W => slice64 W tb (off + n2 * 64) r2 m rl rm
        have hbw : base ≤ wr.heap.size := Nat.le_trans hbase hb.out.size
        have hpn : n + p + m ≤ 1000000000 := by omega
        have HCT := Lib.hid (tile_cut (r := r2) (m := m) tcl.out tl.out tbl (by omega))
        rw [hx]
        replace hx := Lib.hid hx
        go_wp2_with fail
        go_quiet (fail)
        have HO2 := Lib.hid (show (wr.drewN nq).ownsRow base 3 1 (.slice A' (n + p) c') (n + p) (iv (xs ++ lineP f sx sy y fr p)) from ho.out)
        have HC2 := Lib.hid (show Ints (wr.drewN nq) base (some ⟨tb, off + n2 * 64 + r2, none⟩) m _ from HCT.out)
        clear ho
        go_wp2_with (at_builtin; refine push_list_g _ rfl _ _ rfl base (n + p) c' m (64 - r2) base A' ⟨tb, off + n2 * 64 + r2, none⟩ _ _ rfl rfl HO2.out HC2.out hpn hbw ?_; intro A5 c5 w5 o5 b5 g5; replace o5 := Lib.hid o5; replace b5 := Lib.hid b5; replace g5 := Lib.hid g5)
        go_roundw
        case rel =>
          refine ⟨p + m, A5, c5, ?_, ?_, ?_, ?_, (below_drewN hb.out nq).trans b5.out, ?_⟩
          · have := hx.out; push_cast; omega
          · have := hx.out
            congr 1
            push_cast
            omega
          · rw [Nat.add_assoc]
          · have h5 := o5.out
            rw [Nat.add_assoc, List.append_assoc, ← px_line N.out tl.out hmm, ← lineP_add] at h5
            exact h5
          · have h6 := (hgr.out.drewN nq).trans g5.out
            rw [Nat.add_assoc] at h6
            exact h6
        case measure => have := hx.out; simp [intOf]; omega
    · obtain rfl : p = (to - fr).toNat := by omega
      replace ho := Lib.hid ho
      replace hb := Lib.hid hb
      go_wp2_with fail
      go_ret
      exact ⟨_, _, rfl, ho.out, hb.out, hgr.out⟩
theorem drawLine_any (f : Fld) (b : Nat) (sx sy y fr to : Int) (base n c : Nat) (A : Option Addr) (xs : List Int) (w : World) (h : FRdB w base f) (hb : FBox w b f) (hlt : b < base) (hf : fieldB f = true) (hsx : 0 ≤ sx ∧ sx ≤ 255) (hsy : 0 ≤ sy ∧ sy ≤ 255) (hfr : 0 ≤ fr) (hft : fr ≤ to) (hto : to ≤ 32) (hy : 0 ≤ y ∧ y < 16)
    (ho : w.ownsRow base 3 1 (.slice A n c) n (iv xs)) (hn : n ≤ 1000) (hbase : base ≤ w.heap.size) :
    Calls Try.prog 55 #[.pointer (some ⟨b, 0, none⟩), .int .i64 sx, .int .i64 sy, .int .i64 y, .int .i64 fr, .int .i64 to, .slice A n c] w fun e w' => ∃ A' c', e = .returned (.slice A' (n + (to - fr).toNat) c') ∧ w'.ownsRow base 3 1 (.slice A' (n + (to - fr).toNat) c') (n + (to - fr).toNat) (iv (xs ++ lineP f sx sy y fr (to - fr).toNat)) ∧ Below base w w' :=
  (drawLine_at f b sx sy y fr to base n c A xs w h hb hlt hf hsx hsy hfr hft hto hy ho hn hbase).mono fun e w' ⟨A', c', h1, h2, h3, _⟩ => ⟨A', c', h1, h2, h3⟩
end Go.Proofs.Ytkcabllnlbcgdaa
