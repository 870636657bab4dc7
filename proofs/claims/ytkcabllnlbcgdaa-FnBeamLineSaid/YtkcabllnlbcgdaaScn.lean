/-
  SceneLine, ScenePixel, SceneHash of both packages. No condition but that lengths stay in range.
-/
import Derived.Test.YtkcabllnlbcgdaaPic
namespace Go.Proofs.Ytkcabllnlbcgdaa
open Go.RowKit
set_option linter.unusedVariables false
set_option linter.unusedSimpArgs false
def scLineR (f : Fld) (ss : List Spr) (y : Int) : List Int := if sceneB f ss && inB y 0 15 then scLine f ss y else []
def scPixR (f : Fld) (ss : List Spr) (x y : Int) : Int := if sceneB f ss && (inB x 0 31 && inB y 0 15) then scP f ss x y else -1
set_option maxRecDepth 20000 in
set_option maxHeartbeats 2000000 in
theorem sceneLine_impl (f : Fld) (A : Option Addr) (n c : Nat) (ss : List Spr) (y : Int) (w : World) (h : FRd w f) (hs : SpRd w w.heap.size A n ss) (hn : n ≤ 100000000) :
    Calls Try.prog 34 #[scV f A n c, .int .i64 y] w (Gives w (scLineR f ss y)) := by
  have hb0 : Below w.heap.size w (w.alloc (.cells #[.int .i64 f.W, .slice f.A f.n f.c, .slice f.T f.tn f.tc, .int .i64 f.sx, .int .i64 f.sy, .slice A n c] 61)) := (Below.refl _ _).alloc (Nat.le_refl _) _
  have X0 := Lib.hid (SBox.new w f A n c 61)
  have HF := Lib.hid (h.below hb0)
  have HS := Lib.hid ((hs.below hb0).more hb0.size)
  have HBW := Lib.hid hb0
  clear h hs hb0
  unfold scV
  cases hsb : sceneB f ss
  · rw [show scLineR f ss y = [] by unfold scLineR; rw [hsb]; rfl]
    go_enter Try.func34, Try.ntmps34
    go_wp2_with (go_at_call 71; refine (sceneValid_impl f A n c ss _ HF.out HS.out hn).mono ?_; rintro e w5 ⟨rfl, b5⟩; rw [hsb]; replace b5 := Lib.hid b5)
    go_ret
    exact ⟨_, _, rfl, World.ownsRow_nil _ _ _ _, below_step HBW.out b5.out HBW.out.size⟩
  cases hy : inB y 0 15
  · rw [show scLineR f ss y = [] by unfold scLineR; rw [hsb, hy]; rfl]
    go_enter Try.func34, Try.ntmps34
    go_wp2_with (first | (go_at_call 71; refine (sceneValid_impl f A n c ss _ HF.out HS.out hn).mono ?_; rintro e w5 ⟨rfl, b5⟩; rw [hsb]; replace b5 := Lib.hid b5) | (go_at_call 53; refine (within_any _ _ _ _).mono ?_; rintro e w' ⟨rfl, rfl⟩; rw [hy]))
    go_ret
    exact ⟨_, _, rfl, World.ownsRow_nil _ _ _ _, below_step HBW.out b5.out HBW.out.size⟩
  rw [show scLineR f ss y = scLine f ss y by unfold scLineR; rw [hsb, hy]; rfl]
  obtain ⟨y0, y1⟩ := inB_iff.1 hy
  have H1 := Lib.hid (show 0 ≤ y ∧ y < 16 by omega)
  have HSB := Lib.hid hsb
  go_enter Try.func34, Try.ntmps34
  go_wp2_with (first | (go_at_call 71; refine (sceneValid_impl f A n c ss _ HF.out HS.out hn).mono ?_; rintro e w5 ⟨rfl, b5⟩; rw [hsb]; replace b5 := Lib.hid b5) | (go_at_call 53; refine (within_any _ _ _ _).mono ?_; rintro e w' ⟨rfl, rfl⟩; rw [hy]) | (go_at_call 72; refine (sceneLine_any f A n c ss w.heap.size y w5 ⟨HF.out.below b5.out, (HS.out.below b5.out).more b5.out.size, HSB.out⟩ (X0.out.below b5.out) H1.out).mono ?_; rintro e w6 ⟨A6, c6, rfl, o6, b6⟩; replace o6 := Lib.hid o6; replace b6 := Lib.hid b6))
  go_ret
  exact ⟨A6, c6, rfl, own_base o6.out (Nat.le_trans HBW.out.size b5.out.size), below_step HBW.out (below_step b5.out b6.out b5.out.size) HBW.out.size⟩
set_option maxRecDepth 20000 in
set_option maxHeartbeats 2000000 in
theorem scenePixel_impl (f : Fld) (A : Option Addr) (n c : Nat) (ss : List Spr) (x y : Int) (w : World) (h : FRd w f) (hs : SpRd w w.heap.size A n ss) (hn : n ≤ 100000000) :
    Calls Try.prog 44 #[scV f A n c, .int .i64 x, .int .i64 y] w fun e w' => e = .returned (.int .i64 (scPixR f ss x y)) ∧ Below w.heap.size w w' := by
  have hb0 : Below w.heap.size w (w.alloc (.cells #[.int .i64 f.W, .slice f.A f.n f.c, .slice f.T f.tn f.tc, .int .i64 f.sx, .int .i64 f.sy, .slice A n c] 61)) := (Below.refl _ _).alloc (Nat.le_refl _) _
  have X0 := Lib.hid (SBox.new w f A n c 61)
  have HF := Lib.hid (h.below hb0)
  have HS := Lib.hid ((hs.below hb0).more hb0.size)
  have HBW := Lib.hid hb0
  clear h hs hb0
  unfold scV
  cases hsb : sceneB f ss
  · rw [show scPixR f ss x y = -1 by unfold scPixR; rw [hsb]; rfl]
    go_enter Try.func44, Try.ntmps44
    go_wp2_with (go_at_call 71; refine (sceneValid_impl f A n c ss _ HF.out HS.out hn).mono ?_; rintro e w5 ⟨rfl, b5⟩; rw [hsb]; replace b5 := Lib.hid b5)
    go_ret
    exact ⟨rfl, below_step HBW.out b5.out HBW.out.size⟩
  cases hx : inB x 0 31
  · rw [show scPixR f ss x y = -1 by unfold scPixR; rw [hsb, hx]; rfl]
    go_enter Try.func44, Try.ntmps44
    go_wp2_with (first | (go_at_call 71; refine (sceneValid_impl f A n c ss _ HF.out HS.out hn).mono ?_; rintro e w5 ⟨rfl, b5⟩; rw [hsb]; replace b5 := Lib.hid b5) | (go_at_call 53; with_reducible refine (within_any x 0 31 _).mono ?_; rintro e w' ⟨rfl, rfl⟩; rw [hx]))
    go_ret
    exact ⟨rfl, below_step HBW.out b5.out HBW.out.size⟩
  cases hy : inB y 0 15
  · rw [show scPixR f ss x y = -1 by unfold scPixR; rw [hsb, hx, hy]; rfl]
    go_enter Try.func44, Try.ntmps44
    go_wp2_with (first | (go_at_call 71; refine (sceneValid_impl f A n c ss _ HF.out HS.out hn).mono ?_; rintro e w5 ⟨rfl, b5⟩; rw [hsb]; replace b5 := Lib.hid b5) | (go_at_call 53; with_reducible refine (within_any x 0 31 _).mono ?_; rintro e w' ⟨rfl, rfl⟩; rw [hx]) | (go_at_call 53; with_reducible refine (within_any y 0 15 _).mono ?_; rintro e w' ⟨rfl, rfl⟩; rw [hy]))
    go_ret
    exact ⟨rfl, below_step HBW.out b5.out HBW.out.size⟩
  rw [show scPixR f ss x y = scP f ss x y by unfold scPixR; rw [hsb, hx, hy]; rfl]
  obtain ⟨y0, y1⟩ := inB_iff.1 hy
  obtain ⟨x0, x1⟩ := inB_iff.1 hx
  obtain ⟨k, rfl⟩ : ∃ k : Nat, x = (k : Int) := ⟨x.toNat, by omega⟩
  have H1 := Lib.hid (show 0 ≤ y ∧ y < 16 by omega)
  have HSB := Lib.hid hsb
  have k32 : (k : Int) < 32 := by omega
  have hget := scLine_get (f := f) (ss := ss) (y := y) (k := k) (by omega)
  have hiv : (iv (scLine f ss y))[k]? = some (.int .i64 (scP f ss (k : Int) y)) := by unfold iv; rw [List.getElem?_map, hget]; rfl
  have HIV := Lib.hid hiv
  clear hget hiv
  go_enter Try.func44, Try.ntmps44
  go_wp2_with (first | (go_at_call 71; refine (sceneValid_impl f A n c ss _ HF.out HS.out hn).mono ?_; rintro e w5 ⟨rfl, b5⟩; rw [hsb]; replace b5 := Lib.hid b5) | (go_at_call 53; with_reducible refine (within_any (k : Int) 0 31 _).mono ?_; rintro e w' ⟨rfl, rfl⟩; rw [hx]) | (go_at_call 53; with_reducible refine (within_any y 0 15 _).mono ?_; rintro e w' ⟨rfl, rfl⟩; rw [hy]) | (go_at_call 72; refine (sceneLine_any f A n c ss w.heap.size y w5 ⟨HF.out.below b5.out, (HS.out.below b5.out).more b5.out.size, HSB.out⟩ (X0.out.below b5.out) H1.out).mono ?_; rintro e w6 ⟨A6, c6, rfl, o6, b6⟩; rw [scLine_len] at o6 ⊢; replace b6 := Lib.hid b6; obtain ⟨g, rfl, -, -⟩ := (own_block o6).resolve_left (by omega); have hcell := (o6.cellAt k (by omega)).trans HIV.out; clear o6))
  go_ret
  exact ⟨rfl, below_step HBW.out (below_step b5.out b6.out b5.out.size) HBW.out.size⟩
theorem scTake_succ {f : Fld} {ss : List Spr} {y : Int} {p : Nat} (hp : p < 32) : (scLine f ss y).take (p + 1) = (scLine f ss y).take p ++ [scP f ss (p : Int) y] := by
  rw [List.take_add_one, scLine_get hp]; rfl
theorem push_own_k {ops : Array Oper} {rest : List Oper} {o : Oper} {a : Act} {Q : Exit → Act → World → Prop} (w : World) (hgd : o.guard = none) (s x : Operand)
    (ho : o.op = .call { callee := .builtin .append, args := #[s, x], argTypes := #[23, 23] })
    (base n c H d : Nat) (A : Option Addr) (xs : List Int) (y : Int) (hs : a.eval s = .slice A n c) (hx : a.eval x = .slice (some ⟨H, 0, none⟩) 1 d)
    (hown : w.ownsRow base 3 1 (.slice A n c) n (iv xs)) (hc : w.cell? ⟨H, 0, none⟩ = some (.int .i64 y)) (hn : n ≤ 1000000000) (hb : base ≤ w.heap.size)
    (h : ∀ A' c' w', w'.ownsRow base 3 1 (.slice A' (n + 1) c') (n + 1) (iv (xs ++ [y])) → w.grownBy w' (Value.slice A n c).ownBlock → ((Value.slice A' (n + 1) c').ownBlock = (Value.slice A n c).ownBlock ∨ (Value.slice A' (n + 1) c').ownBlock = some w.heap.size) → wpList Try.prog ops Q rest (a.put o.dst (.slice A' (n + 1) c')) w') :
    wpList Try.prog ops Q (o :: rest) a w := by
  obtain ⟨i0, hi0, hz0, hz1, hz2⟩ := info_parts int_info
  refine wpList_append_own_at w hgd s x 23 ho base 3 i0 (.int .i64 0) 1 8 Try.underlying23 hi0 hz0 hz1 hz2 rfl (by omega) _ n (iv xs) hs hown ⟨H, 0, none⟩ 1 d [.int .i64 y] hx rfl ?_ ?_ (by simp only [maxLen]; omega) (by omega) hb ?_
  · intro j u hj
    match j, hj with
    | 0, hj => simp at hj; subst hj; simpa [Addr.add] using hc
  · intro u hu; simp at hu; subst hu; rfl
  · intro v' w' ho' hg' _ hat
    obtain ⟨A', c', rfl⟩ := own_form ho'
    rw [← iv_snoc] at ho'
    exact h A' c' w' ho' hg' hat
set_option maxRecDepth 20000 in
set_option maxHeartbeats 2000000 in
theorem sceneLine_spec (f : Fld) (A : Option Addr) (n c : Nat) (ss : List Spr) (y : Int) (w : World) (h : FRd w f) (hs : SpRd w w.heap.size A n ss) (hn : n ≤ 100000000) :
    Calls Try.prog 32 #[scV f A n c, .int .i64 y] w (Gives w (scLineR f ss y)) := by
  have HOE : Hid (∀ W : World, (W.alloc (.cells #[] 3)).ownsRow W.heap.size 3 1 (.slice (some ⟨W.heap.size, 0, none⟩) 0 0) 0 (iv [])) := Lib.hid fun W => World.ownsRow_lit W #[] 0 (Nat.le_refl _) (by simp [maxLen]) rfl
  have hb0 : Below w.heap.size w (w.alloc (.cells #[.int .i64 f.W, .slice f.A f.n f.c, .slice f.T f.tn f.tc, .int .i64 f.sx, .int .i64 f.sy, .slice A n c] 61)) := (Below.refl _ _).alloc (Nat.le_refl _) _
  have X0 := Lib.hid (SBox.new w f A n c 61)
  have HF := Lib.hid (h.below hb0)
  have HS := Lib.hid ((hs.below hb0).more hb0.size)
  have HBW := Lib.hid hb0
  clear h hs hb0
  unfold scV
  obtain ⟨w0, hw0⟩ : ∃ w0, w0 = w.alloc (.cells #[.int .i64 f.W, .slice f.A f.n f.c, .slice f.T f.tn f.tc, .int .i64 f.sx, .int .i64 f.sy, .slice A n c] 61) := ⟨_, rfl⟩
  have hw0s : w0.heap.size = w.heap.size + 1 := by rw [hw0]; simp
  have hb1 : Below w0.heap.size w0 (w0.alloc (.cells #[] 3)) := (Below.refl _ _).alloc (Nat.le_refl _) _
  rw [← hw0] at HF HS X0 HBW
  have HF0 := HF
  have HS0 := HS
  have X00 := X0
  have HBW0 := HBW
  have XA := X0.out.below hb1
  replace X0 := Lib.hid XA
  have O1 := Lib.hid (HOE.out w0)
  replace HF := Lib.hid (HF.out.below hb1)
  replace HS := Lib.hid ((HS.out.below hb1).more hb1.size)
  replace HBW := Lib.hid (below_step HBW.out hb1 HBW.out.size)
  clear hb1 XA
  subst hw0
  cases hsb : sceneB f ss
  · rw [show scLineR f ss y = [] by unfold scLineR; rw [hsb]; rfl]
    go_enter Try.func32, Try.ntmps32
    go_wp2_with (go_at_call 67; refine (sceneValid_spec f A n c ss _ HF.out HS.out hn).mono ?_; rintro e w5 ⟨rfl, b5⟩; rw [hsb]; obtain ⟨-, p0, p1, p2, p3, p4, p5⟩ := X0.out.below b5; replace b5 := Lib.hid b5)
    go_ret
    rw [hw0s] at O1
    exact ⟨_, _, rfl, own_base (own_below O1.out b5.out) (by omega), below_step HBW.out b5.out HBW.out.size⟩
  cases hy : inB y 0 15
  · rw [show scLineR f ss y = [] by unfold scLineR; rw [hsb, hy]; rfl]
    go_enter Try.func32, Try.ntmps32
    go_wp2_with (first | (go_at_call 67; refine (sceneValid_spec f A n c ss _ HF.out HS.out hn).mono ?_; rintro e w5 ⟨rfl, b5⟩; rw [hsb]; obtain ⟨-, p0, p1, p2, p3, p4, p5⟩ := X0.out.below b5; replace b5 := Lib.hid b5) | (go_at_call 49; refine (l1In_any _ _ _ _).mono ?_; rintro e w' ⟨rfl, rfl⟩; rw [hy]))
    go_ret
    rw [hw0s] at O1
    exact ⟨_, _, rfl, own_base (own_below O1.out b5.out) (by omega), below_step HBW.out b5.out HBW.out.size⟩
  rw [show scLineR f ss y = scLine f ss y by unfold scLineR; rw [hsb, hy]; rfl]
  obtain ⟨y0, y1⟩ := inB_iff.1 hy
  have H1 := Lib.hid (show 0 ≤ y ∧ y < 16 by omega)
  have HSB := Lib.hid hsb
  go_enter Try.func32, Try.ntmps32
  go_wp2_with (first | (go_at_call 67; refine (sceneValid_spec f A n c ss _ HF.out HS.out hn).mono ?_; rintro e w5 ⟨rfl, b5⟩; rw [hsb]; obtain ⟨-, p0, p1, p2, p3, p4, p5⟩ := X0.out.below b5; replace b5 := Lib.hid b5) | (go_at_call 49; refine (l1In_any _ _ _ _).mono ?_; rintro e w' ⟨rfl, rfl⟩; rw [hy]))
  have HH := Lib.hid (ScH.mk (HF.out.below b5.out) ((HS.out.below b5.out).more b5.out.size) HSB.out)
  refine (l11On_any A n c ss y _ HH.out.sr (by have := HH.out.n12; omega) H1.out HH.out.ys).mono ?_
  rintro e w6 ⟨S, sc, rfl, o6, b6⟩
  rw [hw0s] at O1
  have O2 := Lib.hid (own_below (own_below O1.out b5.out) b6)
  have HB6 := Lib.hid (below_step HBW.out (below_step b5.out b6 b5.out.size) HBW.out.size)
  have O6 := Lib.hid o6
  have lt6 := Lib.hid (show ∀ k, (Value.slice (some ⟨w.heap.size + 1, 0, none⟩) 0 0).ownBlock = some k → k < w5.heap.size from fun k hk => ((own_below O1.out b5.out).lt k hk).2)
  have hz6 := Lib.hid (show w.heap.size + 1 ≤ w6.heap.size by have h1 := b5.out.size; have h2 := b6.size; have h3 : ((w.alloc (.cells #[.int .i64 f.W, .slice f.A f.n f.c, .slice f.T f.tn f.tc, .int .i64 f.sx, .int .i64 f.sy, .slice A n c] 61)).alloc (.cells #[] 3)).heap.size = w.heap.size + 2 := (by simp); omega)
  have HB0 := Lib.hid (show Below (w.heap.size + 1) (w.alloc (.cells #[.int .i64 f.W, .slice f.A f.n f.c, .slice f.T f.tn f.tc, .int .i64 f.sx, .int .i64 f.sy, .slice A n c] 61)) w6 from hw0s ▸ (((Below.refl (w.alloc (.cells #[.int .i64 f.W, .slice f.A f.n f.c, .slice f.T f.tn f.tc, .int .i64 f.sx, .int .i64 f.sy, .slice A n c] 61)).heap.size (w.alloc (.cells #[.int .i64 f.W, .slice f.A f.n f.c, .slice f.T f.tn f.tc, .int .i64 f.sx, .int .i64 f.sy, .slice A n c] 61))).alloc (Nat.le_refl _) (.cells #[] 3)).trans (b5.out.mono (by simp))).trans (b6.mono (by have h1 := b5.out.size; have h2 : ((w.alloc (.cells #[.int .i64 f.W, .slice f.A f.n f.c, .slice f.T f.tn f.tc, .int .i64 f.sx, .int .i64 f.sy, .slice A n c] 61)).alloc (.cells #[] 3)).heap.size = w.heap.size + 2 := (by simp); rw [hw0s]; omega)))
  clear p0 p1 p2 p3 p4 p5 b6 o6 HF HS O1 HBW
  have NE6 := Lib.hid (show (Value.slice (some ⟨w.heap.size + 1, 0, none⟩) 0 0).ownBlock ≠ (Value.slice S (onP ss y).length sc).ownBlock from fun e => by
    have h1 := lt6.out _ rfl
    have h2 := (O6.out.lt (w.heap.size + 1) e.symm).1
    simp only [] at h1
    omega)
  go_wp2_with fail
  go_loopw [5, 7] (fun out i wr => ∃ (p : Nat) (A' : Option Addr) (c' : Nat), p ≤ 32 ∧ out = .slice A' p c' ∧ i = .int .i64 p ∧ wr.ownsRow (w.heap.size + 1) 3 1 (.slice A' p c') p (iv ((scLine f ss y).take p)) ∧ wr.ownsRow w5.heap.size 3 1 (.slice S (onP ss y).length sc) (onP ss y).length (iv (onP ss y)) ∧ (Value.slice A' p c').ownBlock ≠ (Value.slice S (onP ss y).length sc).ownBlock ∧ Below (w.heap.size + 1) (w.alloc (.cells #[.int .i64 f.W, .slice f.A f.n f.c, .slice f.T f.tn f.tc, .int .i64 f.sx, .int .i64 f.sy, .slice A n c] 61)) wr ∧ w.heap.size + 1 ≤ wr.heap.size) (fun _ i _ => 32 - (intOf i).toNat)
  case atStart => exact ⟨0, _, _, Nat.zero_le _, rfl, rfl, O2.out, O6.out, NE6.out, HB0.out, hz6.out⟩
  case round =>
    clear HH X0 O2 O6 NE6 HB0 HB6 hz6 lt6 b5
    obtain ⟨p, A', c', hp, rfl, rfl, o2, o6, ne, hb, hz⟩ := hrel
    by_cases hlt : p < 32
    · have q0 : (0 : Int) ≤ (p : Int) := by omega
      have q1 : (p : Int) < 32 := by omega
      have X9 := Lib.hid (show (0 : Int) ≤ (p : Int) ∧ (p : Int) ≤ 32 by omega)
      have hb' : Below (w.alloc (.cells #[.int .i64 f.W, .slice f.A f.n f.c, .slice f.T f.tn f.tc, .int .i64 f.sx, .int .i64 f.sy, .slice A n c] 61)).heap.size (w.alloc (.cells #[.int .i64 f.W, .slice f.A f.n f.c, .slice f.T f.tn f.tc, .int .i64 f.sx, .int .i64 f.sy, .slice A n c] 61)) wr := by rw [hw0s]; exact hb
      have HW := Lib.hid (ScH.mk (HF0.out.below hb') ((HS0.out.below hb').more hb'.size) HSB.out)
      obtain ⟨-, c0, c1, c2, c3, c4, c5⟩ := X00.out.below hb'
      have I6 := Lib.hid (own_ints o6)
      have O2 := Lib.hid o2
      have O6 := Lib.hid o6
      have HB := Lib.hid hb
      have htk := Lib.hid (scTake_succ (f := f) (ss := ss) (y := y) hlt)
      replace ne := Lib.hid ne
      clear o2 o6 hb hb'
      go_wp2_with (first | (go_at_call 69; refine (l12Pixel_any f A n c ss S sc p y wr HW.out I6.out X9.out H1.out).mono ?_; rintro e w7 ⟨rfl, b7⟩; replace b7 := Lib.hid b7) | (at_builtin; refine push_own_k _ rfl _ _ rfl (w.heap.size + 1) p c' w7.heap.size 1 A' ((scLine f ss y).take p) (scP f ss p y) rfl rfl ((own_below O2.out b7.out).alloc _) (cell_new _ _ _ 0) (by omega) (Nat.le_trans hz (Nat.le_trans b7.out.size (size_alloc_le _ _))) ?_; intro A3 c3' w3 o3 g3 k3; replace o3 := Lib.hid o3; replace g3 := Lib.hid g3; replace k3 := Lib.hid k3))
      go_roundw
      case rel =>
        have z7 := Nat.le_trans hz b7.out.size
        have bb : Below (w.heap.size + 1) (w.alloc (.cells #[.int .i64 f.W, .slice f.A f.n f.c, .slice f.T f.tn f.tc, .int .i64 f.sx, .int .i64 f.sy, .slice A n c] 61)) (w7.alloc (.cells #[.int .i64 (scP f ss p y)] 3)) := (HB.out.trans (b7.out.mono hz)).alloc z7 _
        refine ⟨p + 1, A3, c3', by omega, rfl, by go_num, by rw [htk.out]; exact o3.out, ((own_below O6.out b7.out).alloc _).kept g3.out (.inr (Ne.symm ne.out)), ?_, bb.grown g3.out (Nat.le_trans z7 (size_alloc_le _ _)) (fun k hk => (O2.out.lt k hk).1), Nat.le_trans (Nat.le_trans z7 (size_alloc_le _ _)) g3.out.size⟩
        rcases k3.out with hk | hk
        · rw [hk]; exact ne.out
        · rw [hk]
          intro e
          have := (O6.out.lt _ e.symm).2
          have h2 := b7.out.size
          simp at this
          omega
      case measure => simp [intOf]; omega
    · obtain rfl : p = 32 := by omega
      rw [List.take_of_length_le (by rw [scLine_len]; omega)] at o2
      have O2 := Lib.hid o2
      have HB := Lib.hid hb
      clear o2 o6 hb
      go_wp2_with fail
      go_ret
      exact ⟨A', c', by rw [scLine_len]; rfl, by rw [scLine_len]; exact own_base O2.out (by omega), HBW0.out.trans (HB.out.mono (by omega))⟩
set_option maxRecDepth 20000 in
set_option maxHeartbeats 4000000 in
theorem scenePixel_spec (f : Fld) (A : Option Addr) (n c : Nat) (ss : List Spr) (x y : Int) (w : World) (h : FRd w f) (hs : SpRd w w.heap.size A n ss) (hn : n ≤ 100000000) :
    Calls Try.prog 43 #[scV f A n c, .int .i64 x, .int .i64 y] w fun e w' => e = .returned (.int .i64 (scPixR f ss x y)) ∧ Below w.heap.size w w' := by
  have hb0 : Below w.heap.size w (w.alloc (.cells #[.int .i64 f.W, .slice f.A f.n f.c, .slice f.T f.tn f.tc, .int .i64 f.sx, .int .i64 f.sy, .slice A n c] 61)) := (Below.refl _ _).alloc (Nat.le_refl _) _
  have X0 := Lib.hid (SBox.new w f A n c 61)
  have HF := Lib.hid (h.below hb0)
  have HS := Lib.hid ((hs.below hb0).more hb0.size)
  have HBW := Lib.hid hb0
  clear h hs hb0
  unfold scV
  cases hsb : sceneB f ss
  · rw [show scPixR f ss x y = -1 by unfold scPixR; rw [hsb]; rfl]
    go_enter Try.func43, Try.ntmps43
    go_wp2_with (go_at_call 67; refine (sceneValid_spec f A n c ss _ HF.out HS.out hn).mono ?_; rintro e w5 ⟨rfl, b5⟩; rw [hsb]; obtain ⟨-, p0, p1, p2, p3, p4, p5⟩ := X0.out.below b5; replace b5 := Lib.hid b5)
    go_ret
    exact ⟨rfl, below_step HBW.out b5.out HBW.out.size⟩
  cases hx : inB x 0 31
  · rw [show scPixR f ss x y = -1 by unfold scPixR; rw [hsb, hx]; rfl]
    go_enter Try.func43, Try.ntmps43
    go_wp2_with (first | (go_at_call 67; refine (sceneValid_spec f A n c ss _ HF.out HS.out hn).mono ?_; rintro e w5 ⟨rfl, b5⟩; rw [hsb]; obtain ⟨-, p0, p1, p2, p3, p4, p5⟩ := X0.out.below b5; replace b5 := Lib.hid b5) | (go_at_call 49; with_reducible refine (l1In_any x 0 31 _).mono ?_; rintro e w' ⟨rfl, rfl⟩; rw [hx]))
    go_ret
    exact ⟨rfl, below_step HBW.out b5.out HBW.out.size⟩
  cases hy : inB y 0 15
  · rw [show scPixR f ss x y = -1 by unfold scPixR; rw [hsb, hx, hy]; rfl]
    go_enter Try.func43, Try.ntmps43
    go_wp2_with (first | (go_at_call 67; refine (sceneValid_spec f A n c ss _ HF.out HS.out hn).mono ?_; rintro e w5 ⟨rfl, b5⟩; rw [hsb]; obtain ⟨-, p0, p1, p2, p3, p4, p5⟩ := X0.out.below b5; replace b5 := Lib.hid b5) | (go_at_call 49; with_reducible refine (l1In_any x 0 31 _).mono ?_; rintro e w' ⟨rfl, rfl⟩; rw [hx]) | (go_at_call 49; with_reducible refine (l1In_any y 0 15 _).mono ?_; rintro e w' ⟨rfl, rfl⟩; rw [hy]))
    go_ret
    exact ⟨rfl, below_step HBW.out b5.out HBW.out.size⟩
  rw [show scPixR f ss x y = scP f ss x y by unfold scPixR; rw [hsb, hx, hy]; rfl]
  obtain ⟨y0, y1⟩ := inB_iff.1 hy
  obtain ⟨x0, x1⟩ := inB_iff.1 hx
  have H1 := Lib.hid (show 0 ≤ y ∧ y < 16 by omega)
  have X9 := Lib.hid (show 0 ≤ x ∧ x ≤ 32 by omega)
  have HSB := Lib.hid hsb
  have hbx : w.heap.size < (w.alloc (.cells #[.int .i64 f.W, .slice f.A f.n f.c, .slice f.T f.tn f.tc, .int .i64 f.sx, .int .i64 f.sy, .slice A n c] 61)).heap.size := by simp
  go_enter Try.func43, Try.ntmps43
  go_wp2_with (first | (go_at_call 67; refine (sceneValid_spec f A n c ss _ HF.out HS.out hn).mono ?_; rintro e w5 ⟨rfl, b5⟩; rw [hsb]; obtain ⟨-, p0, p1, p2, p3, p4, p5⟩ := X0.out.below b5; replace b5 := Lib.hid b5) | (go_at_call 49; with_reducible refine (l1In_any x 0 31 _).mono ?_; rintro e w' ⟨rfl, rfl⟩; rw [hx]) | (go_at_call 49; with_reducible refine (l1In_any y 0 15 _).mono ?_; rintro e w' ⟨rfl, rfl⟩; rw [hy]))
  have HH := Lib.hid (ScH.mk (HF.out.below b5.out) ((HS.out.below b5.out).more b5.out.size) HSB.out)
  have xl : w.heap.size < w5.heap.size := Nat.lt_of_lt_of_le hbx b5.out.size
  go_region_held3 (fun w' => w'.cell? ⟨w.heap.size, 0, none⟩ = some (.int .i64 f.W) ∧ w'.cell? ⟨w.heap.size, 1, none⟩ = some (.slice f.A f.n f.c) ∧ w'.cell? ⟨w.heap.size, 2, none⟩ = some (.slice f.T f.tn f.tc) ∧ w'.cell? ⟨w.heap.size, 3, none⟩ = some (.int .i64 f.sx) ∧ w'.cell? ⟨w.heap.size, 4, none⟩ = some (.int .i64 f.sy) ∧ w'.cell? ⟨w.heap.size, 5, none⟩ = some (.slice A n c)) (first | exact ⟨p0, p1, p2, p3, p4, p5⟩ | exact ⟨(b6.cell xl).trans p0, (b6.cell xl).trans p1, (b6.cell xl).trans p2, (b6.cell xl).trans p3, (b6.cell xl).trans p4, (b6.cell xl).trans p5⟩) ((first | (go_at_call 68; refine (l11On_any A n c ss y _ (HH.out.below (Below.refl _ _).drew).sr (by have := HH.out.n12; omega) H1.out HH.out.ys).mono ?_; rintro e w6 ⟨S, sc, rfl, o6, b6'⟩; have b6 : Below w5.heap.size w5 w6 := (Below.refl _ _).drew.trans b6'; have I6 := Lib.hid (own_ints o6); clear o6 b6') | (go_at_call 69; refine (l12Pixel_any f A n c ss S sc x y _ (HH.out.below b6) I6.out X9.out H1.out).mono ?_; rintro e w7 ⟨rfl, b7'⟩; have b7 : Below w5.heap.size w5 w7 := below_step b6 b7' b6.size; clear b6 b7'; have b6 := b7; clear b7)))
  go_wp2_with fail
  go_ret
  exact ⟨rfl, below_step HBW.out (below_step b5.out b6 b5.out.size) HBW.out.size⟩
def hashS (h v : Int) : Int := (31 * h + v) % 65521
/-- The number of a picture's first lines. -/
def hashL (f : Fld) (ss : List Spr) : Nat → Int
  | 0 => 1
  | y + 1 => (scLine f ss (y : Int)).foldl hashS (hashL f ss y)
def hashR (f : Fld) (ss : List Spr) : Int := if sceneB f ss = true then hashL f ss 16 else -1
theorem hashS_in {h v : Int} : 0 ≤ hashS h v ∧ hashS h v ≤ 65520 := by unfold hashS; omega
theorem fold_in : ∀ (xs : List Int) (h : Int), 0 ≤ h ∧ h ≤ 65520 → 0 ≤ xs.foldl hashS h ∧ xs.foldl hashS h ≤ 65520
  | [], h, hh => hh
  | x :: xs, h, hh => fold_in xs _ hashS_in
theorem hashL_in (f : Fld) (ss : List Spr) : ∀ y, 0 ≤ hashL f ss y ∧ hashL f ss y ≤ 65520
  | 0 => by unfold hashL; omega
  | y + 1 => fold_in _ _ (hashL_in f ss y)
theorem scP_px {f : Fld} {ss : List Spr} {x y : Int} (h : tilesB f.ts = true) : 0 ≤ scP f ss x y ∧ scP f ss x y ≤ 7 := by
  unfold scP
  simp only []
  split
  · have := pxAt_px (f := f) (sx := f.sx) (sy := f.sy) (x := x) (y := y) h; omega
  · have := spV_px (ts := f.ts) (s := ss.getD (atP ss f.ts x y (onP ss y)).toNat Spr.z) (x := x) (y := y) h; omega
theorem fold_take {f : Fld} {ss : List Spr} {y : Int} {p : Nat} (hp : p < 32) (h : Int) : ((scLine f ss y).take (p + 1)).foldl hashS h = hashS (((scLine f ss y).take p).foldl hashS h) (scP f ss (p : Int) y) := by
  rw [scTake_succ hp, List.foldl_append]; rfl
set_option maxRecDepth 20000 in
set_option maxHeartbeats 4000000 in
theorem sceneHash_impl (f : Fld) (A : Option Addr) (n c : Nat) (ss : List Spr) (w : World) (h : FRd w f) (hs : SpRd w w.heap.size A n ss) (hn : n ≤ 100000000) :
    Calls Try.prog 38 #[scV f A n c] w fun e w' => e = .returned (.int .i64 (hashR f ss)) ∧ Below w.heap.size w w' := by
  have hb0 : Below w.heap.size w (w.alloc (.cells #[.int .i64 f.W, .slice f.A f.n f.c, .slice f.T f.tn f.tc, .int .i64 f.sx, .int .i64 f.sy, .slice A n c] 61)) := (Below.refl _ _).alloc (Nat.le_refl _) _
  have X0 := Lib.hid (SBox.new w f A n c 61)
  have HF := Lib.hid (h.below hb0)
  have HS := Lib.hid ((hs.below hb0).more hb0.size)
  have HBW := Lib.hid hb0
  clear h hs hb0
  unfold scV
  cases hsb : sceneB f ss
  · rw [show hashR f ss = -1 by unfold hashR; rw [hsb]; rfl]
    go_enter Try.func38, Try.ntmps38
    go_wp2_with (go_at_call 71; refine (sceneValid_impl f A n c ss _ HF.out HS.out hn).mono ?_; rintro e w5 ⟨rfl, b5⟩; rw [hsb]; replace b5 := Lib.hid b5)
    go_ret
    exact ⟨rfl, below_step HBW.out b5.out HBW.out.size⟩
  rw [show hashR f ss = hashL f ss 16 by unfold hashR; rw [if_pos hsb]]
  have HSB := Lib.hid hsb
  go_enter Try.func38, Try.ntmps38
  go_wp2_with (go_at_call 71; refine (sceneValid_impl f A n c ss _ HF.out HS.out hn).mono ?_; rintro e w5 ⟨rfl, b5⟩; rw [hsb]; replace b5 := Lib.hid b5)
  have HH := Lib.hid (ScH.mk (HF.out.below b5.out) ((HS.out.below b5.out).more b5.out.size) HSB.out)
  have HTB := Lib.hid (spr_facts HH.out.sb).2.1
  replace X0 := Lib.hid (X0.out.below b5.out)
  clear HF HS
  go_loopw [3, 10] (fun hv i wr => ∃ y : Nat, y ≤ 16 ∧ hv = .int .i64 (hashL f ss y) ∧ i = .int .i64 y ∧ Below w5.heap.size w5 wr) (fun _ i _ => 16 - (intOf i).toNat)
  case atStart => exact ⟨0, Nat.zero_le _, rfl, rfl, Below.refl _ _⟩
  case round =>
    obtain ⟨y, hy, rfl, rfl, hb⟩ := hrel
    by_cases hlt : y < 16
    · have y1 : (y : Int) < 16 := by omega
      have y2 : (0 : Int) ≤ (y : Int) := by omega
      have H1 := Lib.hid (show (0 : Int) ≤ (y : Int) ∧ (y : Int) < 16 by omega)
      have HB := Lib.hid hb
      clear hb
      go_wp2_with (go_at_call 72; refine (sceneLine_any f A n c ss w.heap.size y wr (HH.out.below HB.out) (X0.out.below HB.out) H1.out).mono ?_; rintro e w6 ⟨A6, c6, rfl, o6, b6⟩; rw [scLine_len] at o6 ⊢; replace b6 := Lib.hid b6; obtain ⟨g, rfl, -, hg⟩ := (own_block o6).resolve_left (by omega); have RC := Lib.hid (show ∀ k, k < 32 → w6.cell? ⟨g, k, none⟩ = some (.int .i64 (scP f ss (k : Int) (y : Int))) from fun k hk => (o6.cellAt k (by omega)).trans (by unfold iv; rw [List.getElem?_map, scLine_get hk]; rfl)); clear o6)
      go_loopw [3, 16] (fun hv i wr => ∃ k : Nat, k ≤ 32 ∧ hv = .int .i64 (((scLine f ss (y : Int)).take k).foldl hashS (hashL f ss y)) ∧ i = .int .i64 k ∧ Below w6.heap.size w6 wr) (fun _ i _ => 32 - (intOf i).toNat)
      case atStart => exact ⟨0, Nat.zero_le _, rfl, rfl, Below.refl _ _⟩
      case round =>
        obtain ⟨k, hk, rfl, rfl, hb⟩ := hrel
        by_cases hk2 : k < 32
        · have k0 : (0 : Int) ≤ (k : Int) := by omega
          have k32 : (k : Int) < 32 := by omega
          have hft := Lib.hid (fold_take (f := f) (ss := ss) (y := (y : Int)) hk2 (hashL f ss y))
          have hsr := scP_px (f := f) (ss := ss) (x := (k : Int)) (y := (y : Int)) HTB.out
          have hfi := fold_in ((scLine f ss (y : Int)).take k) _ (hashL_in f ss y)
          have hcell := (hb.cell (p := ⟨g, k, none⟩) hg).trans (RC.out k hk2)
          obtain ⟨q, hq⟩ : ∃ q, ((scLine f ss (y : Int)).take k).foldl hashS (hashL f ss y) = q := ⟨_, rfl⟩
          obtain ⟨v, hv⟩ : ∃ v, scP f ss (k : Int) (y : Int) = v := ⟨_, rfl⟩
          rw [hq] at hfi ⊢
          rw [hv] at hsr hcell
          rw [hq, hv] at hft
          obtain ⟨q0, q1⟩ := hfi
          obtain ⟨v0, v1⟩ := hsr
          have ht : (31 * q + v).tmod 65521 = (31 * q + v) % 65521 := Int.tmod_eq_emod_of_nonneg (by omega)
          obtain ⟨z, hz⟩ : ∃ z, (31 * q + v) % 65521 = z := ⟨_, rfl⟩
          rw [hz] at ht
          have hres := Lib.hid (show ((scLine f ss (y : Int)).take (k + 1)).foldl hashS (hashL f ss y) = z by rw [hft.out]; unfold hashS; exact hz)
          have HB := Lib.hid hb
          replace hq := Lib.hid hq
          replace hv := Lib.hid hv
          clear hb
          go_wp2_with fail
          go_roundw
          case rel => exact ⟨k + 1, by omega, by rw [hres.out], by go_num, HB.out⟩
          case measure => simp [intOf]; omega
        · obtain rfl : k = 32 := by omega
          have hl2 := Lib.hid (show ((scLine f ss (y : Int)).take 32).foldl hashS (hashL f ss y) = hashL f ss (y + 1) by rw [List.take_of_length_le (by rw [scLine_len]; omega)]; rfl)
          rw [hl2.out]
          have HB6 := Lib.hid hb
          clear hb
          go_wp2_with fail
          go_roundw
          case rel => exact ⟨y + 1, by omega, rfl, by go_num, below_step HB.out (below_step b6.out HB6.out b6.out.size) HB.out.size⟩
          case measure => simp [intOf]; omega
    · obtain rfl : y = 16 := by omega
      have HB := Lib.hid hb
      clear hb
      go_wp2_with fail
      go_ret
      exact ⟨rfl, below_step HBW.out (below_step b5.out HB.out b5.out.size) HBW.out.size⟩
set_option maxRecDepth 20000 in
set_option maxHeartbeats 4000000 in
theorem sceneHash_spec (f : Fld) (A : Option Addr) (n c : Nat) (ss : List Spr) (w : World) (h : FRd w f) (hs : SpRd w w.heap.size A n ss) (hn : n ≤ 100000000) :
    Calls Try.prog 39 #[scV f A n c] w fun e w' => e = .returned (.int .i64 (hashR f ss)) ∧ Below w.heap.size w w' := by
  have hb0 : Below w.heap.size w (w.alloc (.cells #[.int .i64 f.W, .slice f.A f.n f.c, .slice f.T f.tn f.tc, .int .i64 f.sx, .int .i64 f.sy, .slice A n c] 61)) := (Below.refl _ _).alloc (Nat.le_refl _) _
  have X0 := Lib.hid (SBox.new w f A n c 61)
  have HF := Lib.hid (h.below hb0)
  have HS := Lib.hid ((hs.below hb0).more hb0.size)
  have HBW := Lib.hid hb0
  clear h hs hb0
  unfold scV
  cases hsb : sceneB f ss
  · rw [show hashR f ss = -1 by unfold hashR; rw [hsb]; rfl]
    go_enter Try.func39, Try.ntmps39
    go_wp2_with (go_at_call 67; refine (sceneValid_spec f A n c ss _ HF.out HS.out hn).mono ?_; rintro e w5 ⟨rfl, b5⟩; rw [hsb]; obtain ⟨-, p0, p1, p2, p3, p4, p5⟩ := X0.out.below b5; replace b5 := Lib.hid b5)
    go_ret
    exact ⟨rfl, below_step HBW.out b5.out HBW.out.size⟩
  rw [show hashR f ss = hashL f ss 16 by unfold hashR; rw [if_pos hsb]]
  have HSB := Lib.hid hsb
  go_enter Try.func39, Try.ntmps39
  go_wp2_with (go_at_call 67; refine (sceneValid_spec f A n c ss _ HF.out HS.out hn).mono ?_; rintro e w5 ⟨rfl, b5⟩; rw [hsb]; obtain ⟨-, p0, p1, p2, p3, p4, p5⟩ := X0.out.below b5; replace b5 := Lib.hid b5)
  clear p0 p1 p2 p3 p4 p5
  have HH := Lib.hid (ScH.mk (HF.out.below b5.out) ((HS.out.below b5.out).more b5.out.size) HSB.out)
  have HTB := Lib.hid (spr_facts HH.out.sb).2.1
  replace X0 := Lib.hid (X0.out.below b5.out)
  clear HF HS
  go_loopw [3, 4] (fun hv i wr => ∃ y : Nat, y ≤ 16 ∧ hv = .int .i64 (hashL f ss y) ∧ i = .int .i64 y ∧ Below w5.heap.size w5 wr) (fun _ i _ => 16 - (intOf i).toNat)
  case atStart => exact ⟨0, Nat.zero_le _, rfl, rfl, Below.refl _ _⟩
  case round =>
    obtain ⟨y, hy, rfl, rfl, hb⟩ := hrel
    by_cases hlt : y < 16
    · have y1 : (y : Int) < 16 := by omega
      have y2 : (0 : Int) ≤ (y : Int) := by omega
      have H1 := Lib.hid (show (0 : Int) ≤ (y : Int) ∧ (y : Int) < 16 by omega)
      have hlr := Lib.hid (show scLineR f ss (y : Int) = scLine f ss (y : Int) by unfold scLineR; rw [HSB.out, show inB (y : Int) 0 15 = true from inB_iff.2 (by omega)]; rfl)
      obtain ⟨-, p0, p1, p2, p3, p4, p5⟩ := X0.out.below hb
      have HB := Lib.hid hb
      clear hb
      go_wp2_with (go_at_call 32; refine (sceneLine_spec f A n c ss y wr (HH.out.below HB.out).fr (HH.out.below HB.out).sr hn).mono ?_; rw [hlr.out]; rintro e w6 ⟨A6, c6, rfl, o6, b6⟩; rw [scLine_len] at o6 ⊢; replace b6 := Lib.hid b6; obtain ⟨g, rfl, -, hg⟩ := (own_block o6).resolve_left (by omega); have RC := Lib.hid (show ∀ k, k < 32 → w6.cell? ⟨g, k, none⟩ = some (.int .i64 (scP f ss (k : Int) (y : Int))) from fun k hk => (o6.cellAt k (by omega)).trans (by unfold iv; rw [List.getElem?_map, scLine_get hk]; rfl)); clear o6)
      clear p0 p1 p2 p3 p4 p5
      go_loopw [3, 6] (fun hv i wr => ∃ k : Nat, k ≤ 32 ∧ hv = .int .i64 (((scLine f ss (y : Int)).take k).foldl hashS (hashL f ss y)) ∧ i = .int .i64 k ∧ Below w6.heap.size w6 wr) (fun _ i _ => 32 - (intOf i).toNat)
      case atStart => exact ⟨0, Nat.zero_le _, rfl, rfl, Below.refl _ _⟩
      case round =>
        obtain ⟨k, hk, rfl, rfl, hb⟩ := hrel
        by_cases hk2 : k < 32
        · have k0 : (0 : Int) ≤ (k : Int) := by omega
          have k32 : (k : Int) < 32 := by omega
          have hft := Lib.hid (fold_take (f := f) (ss := ss) (y := (y : Int)) hk2 (hashL f ss y))
          have hsr := scP_px (f := f) (ss := ss) (x := (k : Int)) (y := (y : Int)) HTB.out
          have hfi := fold_in ((scLine f ss (y : Int)).take k) _ (hashL_in f ss y)
          have hcell := (hb.cell (p := ⟨g, k, none⟩) hg).trans (RC.out k hk2)
          obtain ⟨q, hq⟩ : ∃ q, ((scLine f ss (y : Int)).take k).foldl hashS (hashL f ss y) = q := ⟨_, rfl⟩
          obtain ⟨v, hv⟩ : ∃ v, scP f ss (k : Int) (y : Int) = v := ⟨_, rfl⟩
          rw [hq] at hfi ⊢
          rw [hv] at hsr hcell
          rw [hq, hv] at hft
          obtain ⟨q0, q1⟩ := hfi
          obtain ⟨v0, v1⟩ := hsr
          have ht : (31 * q + v).tmod 65521 = (31 * q + v) % 65521 := Int.tmod_eq_emod_of_nonneg (by omega)
          obtain ⟨z, hz⟩ : ∃ z, (31 * q + v) % 65521 = z := ⟨_, rfl⟩
          rw [hz] at ht
          have hres := Lib.hid (show ((scLine f ss (y : Int)).take (k + 1)).foldl hashS (hashL f ss y) = z by rw [hft.out]; unfold hashS; exact hz)
          have HB := Lib.hid hb
          replace hq := Lib.hid hq
          replace hv := Lib.hid hv
          clear hb
          go_wp2_with fail
          go_roundw
          case rel => exact ⟨k + 1, by omega, by rw [hres.out], by go_num, HB.out⟩
          case measure => simp [intOf]; omega
        · obtain rfl : k = 32 := by omega
          have hl2 := Lib.hid (show ((scLine f ss (y : Int)).take 32).foldl hashS (hashL f ss y) = hashL f ss (y + 1) by rw [List.take_of_length_le (by rw [scLine_len]; omega)]; rfl)
          rw [hl2.out]
          have HB6 := Lib.hid hb
          clear hb
          go_wp2_with fail
          go_roundw
          case rel => exact ⟨y + 1, by omega, rfl, by go_num, below_step HB.out (below_step b6.out HB6.out b6.out.size) HB.out.size⟩
          case measure => simp [intOf]; omega
    · obtain rfl : y = 16 := by omega
      have HB := Lib.hid hb
      clear hb
      go_wp2_with fail
      go_ret
      exact ⟨rfl, below_step HBW.out (below_step b5.out HB.out b5.out.size) HBW.out.size⟩
end Go.Proofs.Ytkcabllnlbcgdaa
