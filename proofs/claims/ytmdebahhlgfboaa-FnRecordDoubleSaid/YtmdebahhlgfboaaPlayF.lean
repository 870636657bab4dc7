/-
  PlayFrames and ButtonsAt in both packages: plain words and contracts. No condition but that lengths stay in range.
-/
import Derived.Test.YtmdebahhlgfboaaRec
namespace Go.Proofs.Ytmdebahhlgfboaa
open Go.RowKit
set_option linter.unusedVariables false
set_option linter.unusedSimpArgs false
def plOk (p : Option Int) (m : Nat) (t : THold) : Bool := inB t.2 1 (300 - (m : Int)) && inB t.1 0 255 && !(p == some t.1)
def plFrom : Option Int → Nat → List THold → Option (List Int)
  | _, _, [] => some []
  | p, m, t :: ts => if plOk p m t then (plFrom (some t.1) (m + t.2.toNat) ts).map (List.replicate t.2.toNat t.1 ++ ·) else none
def plR (ts : List THold) : Option (List Int) := plFrom none 0 ts
def plL (ts : List THold) : List Int := (plR ts).getD []
def plB (ts : List THold) : Bool := (plR ts).isSome
theorem pl_step {p : Option Int} {m k : Nat} {ts : List THold} (hk : k < ts.length) : plFrom p m (ts.drop k) = if plOk p m (ts.getD k (0, 0)) then (plFrom (some (ts.getD k (0, 0)).1) (m + (ts.getD k (0, 0)).2.toNat) (ts.drop (k + 1))).map (List.replicate (ts.getD k (0, 0)).2.toNat (ts.getD k (0, 0)).1 ++ ·) else none := by
  rw [List.drop_eq_getElem_cons hk, List.getD_eq_getElem?_getD, List.getElem?_eq_getElem hk]
  rfl
theorem pl_bad {ts : List THold} {p : Option Int} {os : List Int} {k : Nat} (hk : k < ts.length) (h : plR ts = (plFrom p os.length (ts.drop k)).map (os ++ ·)) (hb : plOk p os.length (ts.getD k (0, 0)) = false) : plL ts = [] ∧ plB ts = false := by
  have : plR ts = none := by rw [h, pl_step hk, hb]; rfl
  simp [plL, plB, this]
theorem pl_good {ts : List THold} {p : Option Int} {os : List Int} {k : Nat} (hk : k < ts.length) (h : plR ts = (plFrom p os.length (ts.drop k)).map (os ++ ·)) (hb : plOk p os.length (ts.getD k (0, 0)) = true) :
    plR ts = (plFrom (some (ts.getD k (0, 0)).1) (os ++ List.replicate (ts.getD k (0, 0)).2.toNat (ts.getD k (0, 0)).1).length (ts.drop (k + 1))).map ((os ++ List.replicate (ts.getD k (0, 0)).2.toNat (ts.getD k (0, 0)).1) ++ ·) := by
  rw [h, pl_step hk, hb, if_pos rfl, Option.map_map, List.length_append, List.length_replicate]
  congr 1
  funext x
  simp
theorem pl_end {ts : List THold} {p : Option Int} {os : List Int} {k : Nat} (hk : ts.length ≤ k) (h : plR ts = (plFrom p os.length (ts.drop k)).map (os ++ ·)) : plL ts = os ∧ plB ts = true := by
  rw [List.drop_eq_nil_of_le hk] at h
  have : plR ts = some os := by rw [h]; simp [plFrom]
  simp [plL, plB, this]
theorem pl_len : ∀ (ts : List THold) (p : Option Int) (m : Nat) (xs : List Int), m ≤ 300 → plFrom p m ts = some xs → xs.length + m ≤ 300
  | [], p, m, xs, hm, h => by simp [plFrom] at h; subst h; simpa using hm
  | t :: ts, p, m, xs, hm, h => by
    unfold plFrom at h
    split at h
    · rename_i hok
      simp only [plOk, Bool.and_eq_true, inB_iff] at hok
      rw [Option.map_eq_some_iff] at h
      obtain ⟨ys, h1, rfl⟩ := h
      have := pl_len ts (some t.1) (m + t.2.toNat) ys (by omega) h1
      rw [List.length_append, List.length_replicate]
      omega
    · cases h
theorem plL_len (ts : List THold) : (plL ts).length ≤ 300 := by
  unfold plL
  cases h : plR ts with
  | none => simp
  | some xs => have := pl_len ts none 0 xs (by omega) h; simpa using this
theorem rep_snoc (xs : List Int) (m : Nat) (y : Int) : xs ++ List.replicate m y ++ [y] = xs ++ List.replicate (m + 1) y := by
  rw [List.append_assoc, ← List.replicate_succ']
theorem own_box2 {w : World} {lo b : Nat} {E : TypeId} {v0 v1 : Value} (h : w.ownsRow lo E 2 (.slice (some ⟨b, 0, none⟩) 1 1) 1 [v0, v1]) :
    (w.cell? ⟨b, 0, none⟩ = some v0 ∧ w.cell? ⟨b, 1, none⟩ = some v1) ∧ b < w.heap.size ∧ lo ≤ b :=
  ⟨⟨h.cellAt 0 (by simp), h.cellAt 1 (by simp)⟩, (h.lt b rfl).2, (h.lt b rfl).1⟩
theorem box2_new (w : World) (E : TypeId) (v0 v1 : Value) : (w.alloc (.cells #[v0, v1] E)).ownsRow w.heap.size E 2 (.slice (some ⟨w.heap.size, 0, none⟩) 1 1) 1 [v0, v1] :=
  World.ownsRow_lit w #[v0, v1] 1 (Nat.le_refl _) (by simp [maxLen]) rfl
/-- Rows over different kinds of cells lie in different blocks. -/
theorem own_ne_of {w : World} {base b n size : Nat} {v0 v1 : Value} {u : Value} {xs : List Value} (h : w.ownsRow b 42 2 (.slice (some ⟨b, 0, none⟩) 1 1) 1 [v0, v1]) (h' : w.ownsRow base 3 size u n xs) : ∀ g, u.ownBlock = some g → g ≠ b := by
  rintro g hg rfl
  rcases h.2 with ⟨e, _⟩ | ⟨g1, cap1, cur1, e1, _, c1, _⟩
  · cases e
  rcases h'.2 with ⟨e, _⟩ | ⟨g2, cap2, cur2, e2, _, c2, _⟩
  · subst e; cases hg
  · subst e2
    simp only [Value.ownBlock, Option.some.injEq] at hg
    injection e1 with e1
    injection e1 with e1
    injection e1 with e1
    subst e1 hg
    rw [c1] at c2
    injection c2 with c2
    injection c2 with c3 c4
    exact absurd c4 (by decide)
/-- What PlayFrames gives. -/
def GivesB (w : World) (xs : List Int) (b : Bool) (e : Ending) (w' : World) : Prop := ∃ A c, e = .returned (.tuple #[.slice A xs.length c, .bool b]) ∧ w'.ownsRow w.heap.size 3 1 (.slice A xs.length c) xs.length (iv xs) ∧ Below w.heap.size w w'
theorem within_eq {n lo hi : Int} {b : Bool} (h : inB n lo hi = b) (w : World) :
    Calls Try.prog 47 #[.int .i64 n, .int .i64 lo, .int .i64 hi] w fun e w' => e = .returned (.bool b) ∧ w = w' := by
  subst h
  exact within_any n lo hi w
theorem isByte_eq {n : Int} {b : Bool} (h : inB n 0 255 = b) (w : World) :
    Calls Try.prog 48 #[.int .i64 n] w fun e w' => e = .returned (.bool b) ∧ w = w' := by
  subst h
  exact isByte_any n w
set_option maxHeartbeats 4000000 in
theorem playFrames_impl (A : Option Addr) (n c : Nat) (ts : List THold) (w : World) (h : Reads w w.heap.size 2 A n (iv (flHold ts))) (hn : n ≤ 1000000000) :
    Calls Try.prog 19 #[.slice A n c] w (GivesB w (plL ts) (plB ts)) := by
  have hl := hold_len h
  have H := Lib.hid h
  clear h
  go_enter Try.func19, Try.ntmps19
  go_wp2_with fail
  go_loopw [4, 9] (fun out i wr => ∃ (k : Nat) (A' : Option Addr) (c' : Nat) (os : List Int) (p : Option Int), k ≤ n ∧ i = .int .i64 k ∧ out = .slice A' os.length c' ∧ wr.ownsRow w.heap.size 3 1 (.slice A' os.length c') os.length (iv os) ∧ plR ts = (plFrom p os.length (ts.drop k)).map (os ++ ·) ∧ os.length ≤ 300 ∧ (k = 0 → p = none) ∧ (0 < k → p = some (ts.getD (k - 1) (0, 0)).1) ∧ Below w.heap.size w wr) (fun _ i _ => n - (intOf i).toNat)
  case atStart => exact ⟨0, none, 0, [], none, Nat.zero_le _, rfl, rfl, World.ownsRow_nil _ _ _ _, by simp [plR], by simp, fun _ => rfl, fun h => by omega, Below.refl _ _⟩
  case round =>
    obtain ⟨k, A', c', os, p, hk, rfl, rfl, hown, hall, hos, hk0, hk1, hb⟩ := hrel
    have hob : ∀ g, (Value.slice A' os.length c').ownBlock = some g → g < wr.heap.size := fun g hg => (hown.lt g hg).2
    by_cases hlt : k < n
    · obtain ⟨b, off, e1, hb1, h0, h1⟩ := hold_spot (H.out.below hb) hlt
      have hpr : 0 < k → wr.cell? ⟨b, off + (k - 1) * 2, none⟩ = some (.int .i64 (ts.getD (k - 1) (0, 0)).1) := by
        intro hp
        obtain ⟨b', off', e1', _, h0', _⟩ := hold_spot (k := k - 1) (H.out.below hb) (by omega)
        rw [e1] at e1'
        injection e1' with e1'
        injection e1' with e2 e3
        subst e2 e3
        exact h0'
      have hbad := Lib.hid (fun hb => pl_bad (show k < ts.length by omega) hall hb)
      have hgood := Lib.hid (fun hb => pl_good (show k < ts.length by omega) hall hb)
      obtain ⟨t, ht⟩ : ∃ t, t = ts.getD k (0, 0) := ⟨_, rfl⟩
      rw [← ht] at h0 h1 hbad hgood
      have HT := Lib.hid ht
      obtain ⟨x, f⟩ := t
      have q0 : (0 : Int) ≤ (k : Int) := by omega
      have q1 : (k : Int) < (n : Int) := by omega
      have HO := Lib.hid hown
      have HB := Lib.hid hb
      have hsz := hb.size
      have hb2 : b < wr.heap.size := by omega
      subst e1
      clear hown hb hall ht
      have w0' : IntKind.i64.wrap (300 - (os.length : Int)) = 300 - (os.length : Int) := IntWalk.i64_in _ (by omega)
      cases b0 : inB f 1 (300 - (os.length : Int))
      · have b1 := trivial
        by_cases hp : 0 < k
        · have hf := hbad.out (by simp [plOk, b0])
          clear hpr hk0 hk1 hgood hbad
          go_wp2_with fail
          go_quiet ((first | ((with_reducible refine (within_eq b0 _).mono ?_); rintro e w' ⟨rfl, rfl⟩; exact ⟨rfl, _, rfl⟩) | ((with_reducible refine (isByte_eq b1 _).mono ?_); rintro e w' ⟨rfl, rfl⟩; exact ⟨rfl, _, rfl⟩)))
          go_wp2_with fail
          refine bodyPost_ret (results_tmp2 (by rfl) _ _ _) rfl ?_
          rw [hf.1, hf.2]
          exact ⟨none, 0, rfl, World.ownsRow_nil _ _ _ _, below_drewN (HB.out.alloc hsz _) _⟩
        · have hf := hbad.out (by simp [plOk, b0])
          clear hpr hk0 hk1 hgood hbad
          go_wp2_with fail
          go_quiet ((first | ((with_reducible refine (within_eq b0 _).mono ?_); rintro e w' ⟨rfl, rfl⟩; exact ⟨rfl, _, rfl⟩) | ((with_reducible refine (isByte_eq b1 _).mono ?_); rintro e w' ⟨rfl, rfl⟩; exact ⟨rfl, _, rfl⟩)))
          go_wp2_with fail
          refine bodyPost_ret (results_tmp2 (by rfl) _ _ _) rfl ?_
          rw [hf.1, hf.2]
          exact ⟨none, 0, rfl, World.ownsRow_nil _ _ _ _, below_drewN (HB.out.alloc hsz _) _⟩
      cases b1 : inB x 0 255
      · by_cases hp : 0 < k
        · have hf := hbad.out (by simp [plOk, b0, b1])
          clear hpr hk0 hk1 hgood hbad
          go_wp2_with fail
          go_quiet ((first | ((with_reducible refine (within_eq b0 _).mono ?_); rintro e w' ⟨rfl, rfl⟩; exact ⟨rfl, _, rfl⟩) | ((with_reducible refine (isByte_eq b1 _).mono ?_); rintro e w' ⟨rfl, rfl⟩; exact ⟨rfl, _, rfl⟩)))
          go_wp2_with fail
          refine bodyPost_ret (results_tmp2 (by rfl) _ _ _) rfl ?_
          rw [hf.1, hf.2]
          exact ⟨none, 0, rfl, World.ownsRow_nil _ _ _ _, below_drewN (HB.out.alloc hsz _) _⟩
        · have hf := hbad.out (by simp [plOk, b0, b1])
          clear hpr hk0 hk1 hgood hbad
          go_wp2_with fail
          go_quiet ((first | ((with_reducible refine (within_eq b0 _).mono ?_); rintro e w' ⟨rfl, rfl⟩; exact ⟨rfl, _, rfl⟩) | ((with_reducible refine (isByte_eq b1 _).mono ?_); rintro e w' ⟨rfl, rfl⟩; exact ⟨rfl, _, rfl⟩)))
          go_wp2_with fail
          refine bodyPost_ret (results_tmp2 (by rfl) _ _ _) rfl ?_
          rw [hf.1, hf.2]
          exact ⟨none, 0, rfl, World.ownsRow_nil _ _ _ _, below_drewN (HB.out.alloc hsz _) _⟩
      by_cases hp : 0 < k
      · have hc := hpr hp
        have hpe := hk1 hp
        have g1 : decide ((k : Int) > 0) = true := decide_eq_true (by omega)
        have w1' : IntKind.i64.wrap ((k : Int) - 1) = ((k - 1 : Nat) : Int) := by rw [IntWalk.i64_in _ (by omega)]; omega
        have w2' : (k : Int) - 1 = ((k - 1 : Nat) : Int) := by omega
        have w3' : ((k - 1 : Nat) : Int) < (n : Int) := by omega
        have w4' : IntKind.i64.wrap ((k - 1 : Nat) : Int) = ((k - 1 : Nat) : Int) := IntWalk.i64_in _ (by omega)
        have w5' : (0 : Int) ≤ ((k - 1 : Nat) : Int) := by omega
        generalize (ts.getD (k - 1) (0, 0)).1 = z at hc hpe
        by_cases he : z = x
        · have hf := hbad.out (by simp [plOk, b0, b1, hpe, he])
          have he2 : (z == x) = true := by simp [he]
          clear hpr hk0 hk1 hgood hbad hpe he
          go_wp2_with fail
          go_quiet ((first | ((with_reducible refine (within_eq b0 _).mono ?_); rintro e w' ⟨rfl, rfl⟩; exact ⟨rfl, _, rfl⟩) | ((with_reducible refine (isByte_eq b1 _).mono ?_); rintro e w' ⟨rfl, rfl⟩; exact ⟨rfl, _, rfl⟩)))
          go_wp2_with fail
          refine bodyPost_ret (results_tmp2 (by rfl) _ _ _) rfl ?_
          rw [hf.1, hf.2]
          exact ⟨none, 0, rfl, World.ownsRow_nil _ _ _ _, below_drewN (HB.out.alloc hsz _) _⟩
        · have hf := hgood.out (by simp [plOk, b0, b1, hpe]; exact he)
          have he2 : (z == x) = false := by simp [he]
          clear hpr hk0 hk1 hgood hbad hpe he
          go_wp2_with fail
          go_quiet ((first | ((with_reducible refine (within_eq b0 _).mono ?_); rintro e w' ⟨rfl, rfl⟩; exact ⟨rfl, _, rfl⟩) | ((with_reducible refine (isByte_eq b1 _).mono ?_); rintro e w' ⟨rfl, rfl⟩; exact ⟨rfl, _, rfl⟩)))
          obtain ⟨W, hW⟩ : ∃ W, W = (wr.alloc (.cells #[.int .i64 x, .int .i64 f] 42)).drewN nq := ⟨_, rfl⟩
          rw [← hW]
          replace HO := Lib.hid (show W.ownsRow w.heap.size 3 1 (.slice A' os.length c') os.length (iv os) by rw [hW]; exact own_drewN (HO.out.alloc _) nq)
          replace HB := Lib.hid (show Below w.heap.size w W by rw [hW]; exact below_drewN (HB.out.alloc hsz _) nq)
          have HV := Lib.hid (show W.ownsRow wr.heap.size 42 2 (.slice (some ⟨wr.heap.size, 0, none⟩) 1 1) 1 [.int .i64 x, .int .i64 f] by rw [hW]; exact own_drewN (box2_new wr _ _ _) nq)
          have hlo : ∀ g, (Value.slice A' os.length c').ownBlock = some g → g < wr.heap.size := hob
          obtain ⟨bh, hbh⟩ : ∃ bh, bh = wr.heap.size := ⟨_, rfl⟩
          rw [← hbh] at HV hlo ⊢
          have hsz2 : w.heap.size ≤ bh := by omega
          have HW := Lib.hid (And.intro hW hbh)
          clear hW hbh hsz hob hb1 hb2 h0 h1
          obtain ⟨F0, rfl⟩ := Int.eq_ofNat_of_zero_le (show 0 ≤ f by have := inB_iff.1 b0; omega)
          have hF1 := inB_iff.1 b0
          simp only [Int.toNat_natCast] at hf
          have HF := Lib.hid hf
          clear hf
          obtain ⟨⟨y0, y1⟩, yl, -⟩ := own_box2 HV.out
          go_wp2_with fail
          go_loopw [4, 44] (fun out i wr' => ∃ (j : Nat) (A2 : Option Addr) (c2 : Nat), j ≤ F0 ∧ out = .slice A2 (os.length + j) c2 ∧ i = .int .i64 j ∧ wr'.ownsRow w.heap.size 3 1 (.slice A2 (os.length + j) c2) (os.length + j) (iv (os ++ List.replicate j x)) ∧ wr'.ownsRow bh 42 2 (.slice (some ⟨bh, 0, none⟩) 1 1) 1 [.int .i64 x, .int .i64 (F0 : Int)] ∧ (∀ g, (Value.slice A2 (os.length + j) c2).ownBlock = some g → g ≠ bh) ∧ Below w.heap.size w wr') (fun _ i _ => F0 - (intOf i).toNat)
          case atStart => exact ⟨0, A', c', Nat.zero_le _, rfl, rfl, by simpa using HO.out, HV.out, fun g hg => Nat.ne_of_lt (hlo g hg), HB.out⟩
          case round =>
            obtain ⟨j, A2, c2, hj, rfl, rfl, o1, v1, n1, b2⟩ := hrel
            replace HO := Lib.hid o1
            replace HV := Lib.hid v1
            replace HB := Lib.hid b2
            have HN := Lib.hid n1
            clear y0 y1 yl o1 n1 b2
            obtain ⟨⟨y0, y1⟩, yl, -⟩ := own_box2 v1
            clear v1
            by_cases hlj : j < F0
            · have q5 : (j : Int) < (F0 : Int) := by omega
              go_wp2_with (at_builtin; refine push_own_g _ rfl _ _ rfl w.heap.size (os.length + j) c2 wr.heap.size 1 A2 (os ++ List.replicate j x) x rfl rfl (HO.out.alloc _) (cell_new _ _ _ 0) (by omega) (Nat.le_trans HB.out.size (size_alloc_le _ _)) ?_; intro A3 c3 w3 o3 gr3; rw [rep_snoc] at o3; replace HV := Lib.hid ((HV.out.alloc _).kept gr3 (.inr (fun e => HN.out bh e.symm rfl))); replace HB := Lib.hid ((HB.out.alloc HB.out.size _).grown gr3 (Nat.le_trans HB.out.size (size_alloc_le _ _)) (fun k hk => (HO.out.lt k hk).1)); have hnb := Lib.hid (own_ne_of HV.out o3); replace o3 := Lib.hid o3; clear gr3)
              go_roundw
              case rel => exact ⟨j + 1, A3, c3, by omega, rfl, by go_num, o3.out, HV.out, hnb.out, HB.out⟩
              case measure => simp [intOf]; omega
            · obtain rfl : j = F0 := by omega
              have q5 : ¬ ((j : Int) < (j : Int)) := by omega
              go_wp2_with fail
              go_roundw
              case rel => exact ⟨k + 1, A2, c2, os ++ List.replicate j x, some x, by omega, by go_num, by rw [List.length_append, List.length_replicate], by rw [List.length_append, List.length_replicate]; exact HO.out, HF.out, by rw [List.length_append, List.length_replicate]; omega, fun h => by omega, fun _ => by rw [Nat.add_sub_cancel, ← HT.out], HB.out⟩
              case measure => simp [intOf]; omega
      · have hpe := hk0 (by omega)
        have g1 : decide ((k : Int) > 0) = false := decide_eq_false (by omega)
        have hf := hgood.out (by simp [plOk, b0, b1, hpe])
        clear hpr hk0 hk1 hgood hbad hpe
        go_wp2_with fail
        go_quiet ((first | ((with_reducible refine (within_eq b0 _).mono ?_); rintro e w' ⟨rfl, rfl⟩; exact ⟨rfl, _, rfl⟩) | ((with_reducible refine (isByte_eq b1 _).mono ?_); rintro e w' ⟨rfl, rfl⟩; exact ⟨rfl, _, rfl⟩)))
        obtain ⟨W, hW⟩ : ∃ W, W = (wr.alloc (.cells #[.int .i64 x, .int .i64 f] 42)).drewN nq := ⟨_, rfl⟩
        rw [← hW]
        replace HO := Lib.hid (show W.ownsRow w.heap.size 3 1 (.slice A' os.length c') os.length (iv os) by rw [hW]; exact own_drewN (HO.out.alloc _) nq)
        replace HB := Lib.hid (show Below w.heap.size w W by rw [hW]; exact below_drewN (HB.out.alloc hsz _) nq)
        have HV := Lib.hid (show W.ownsRow wr.heap.size 42 2 (.slice (some ⟨wr.heap.size, 0, none⟩) 1 1) 1 [.int .i64 x, .int .i64 f] by rw [hW]; exact own_drewN (box2_new wr _ _ _) nq)
        have hlo : ∀ g, (Value.slice A' os.length c').ownBlock = some g → g < wr.heap.size := hob
        obtain ⟨bh, hbh⟩ : ∃ bh, bh = wr.heap.size := ⟨_, rfl⟩
        rw [← hbh] at HV hlo ⊢
        have hsz2 : w.heap.size ≤ bh := by omega
        have HW := Lib.hid (And.intro hW hbh)
        clear hW hbh hsz hob hb1 hb2 h0 h1
        obtain ⟨F0, rfl⟩ := Int.eq_ofNat_of_zero_le (show 0 ≤ f by have := inB_iff.1 b0; omega)
        have hF1 := inB_iff.1 b0
        simp only [Int.toNat_natCast] at hf
        have HF := Lib.hid hf
        clear hf
        obtain ⟨⟨y0, y1⟩, yl, -⟩ := own_box2 HV.out
        go_wp2_with fail
        go_loopw [4, 44] (fun out i wr' => ∃ (j : Nat) (A2 : Option Addr) (c2 : Nat), j ≤ F0 ∧ out = .slice A2 (os.length + j) c2 ∧ i = .int .i64 j ∧ wr'.ownsRow w.heap.size 3 1 (.slice A2 (os.length + j) c2) (os.length + j) (iv (os ++ List.replicate j x)) ∧ wr'.ownsRow bh 42 2 (.slice (some ⟨bh, 0, none⟩) 1 1) 1 [.int .i64 x, .int .i64 (F0 : Int)] ∧ (∀ g, (Value.slice A2 (os.length + j) c2).ownBlock = some g → g ≠ bh) ∧ Below w.heap.size w wr') (fun _ i _ => F0 - (intOf i).toNat)
        case atStart => exact ⟨0, A', c', Nat.zero_le _, rfl, rfl, by simpa using HO.out, HV.out, fun g hg => Nat.ne_of_lt (hlo g hg), HB.out⟩
        case round =>
          obtain ⟨j, A2, c2, hj, rfl, rfl, o1, v1, n1, b2⟩ := hrel
          replace HO := Lib.hid o1
          replace HV := Lib.hid v1
          replace HB := Lib.hid b2
          have HN := Lib.hid n1
          clear y0 y1 yl o1 n1 b2
          obtain ⟨⟨y0, y1⟩, yl, -⟩ := own_box2 v1
          clear v1
          by_cases hlj : j < F0
          · have q5 : (j : Int) < (F0 : Int) := by omega
            go_wp2_with (at_builtin; refine push_own_g _ rfl _ _ rfl w.heap.size (os.length + j) c2 wr.heap.size 1 A2 (os ++ List.replicate j x) x rfl rfl (HO.out.alloc _) (cell_new _ _ _ 0) (by omega) (Nat.le_trans HB.out.size (size_alloc_le _ _)) ?_; intro A3 c3 w3 o3 gr3; rw [rep_snoc] at o3; replace HV := Lib.hid ((HV.out.alloc _).kept gr3 (.inr (fun e => HN.out bh e.symm rfl))); replace HB := Lib.hid ((HB.out.alloc HB.out.size _).grown gr3 (Nat.le_trans HB.out.size (size_alloc_le _ _)) (fun k hk => (HO.out.lt k hk).1)); have hnb := Lib.hid (own_ne_of HV.out o3); replace o3 := Lib.hid o3; clear gr3)
            go_roundw
            case rel => exact ⟨j + 1, A3, c3, by omega, rfl, by go_num, o3.out, HV.out, hnb.out, HB.out⟩
            case measure => simp [intOf]; omega
          · obtain rfl : j = F0 := by omega
            have q5 : ¬ ((j : Int) < (j : Int)) := by omega
            go_wp2_with fail
            go_roundw
            case rel => exact ⟨k + 1, A2, c2, os ++ List.replicate j x, some x, by omega, by go_num, by rw [List.length_append, List.length_replicate], by rw [List.length_append, List.length_replicate]; exact HO.out, HF.out, by rw [List.length_append, List.length_replicate]; omega, fun h => by omega, fun _ => by rw [Nat.add_sub_cancel, ← HT.out], HB.out⟩
            case measure => simp [intOf]; omega
    · obtain rfl : k = n := by omega
      obtain ⟨r1, r2⟩ := pl_end (by omega) hall
      go_wp2_with fail
      refine bodyPost_ret (results_tmp2 (by rfl) _ _ _) rfl ?_
      rw [r1, r2]
      exact ⟨A', c', rfl, hown, hb⟩
theorem l1In_eq {n lo hi : Int} {b : Bool} (h : inB n lo hi = b) (w : World) :
    Calls Try.prog 43 #[.int .i64 n, .int .i64 lo, .int .i64 hi] w fun e w' => e = .returned (.bool b) ∧ w = w' := by
  subst h
  exact l1In_any n lo hi w
theorem l1Byte_eq {n : Int} {b : Bool} (h : inB n 0 255 = b) (w : World) :
    Calls Try.prog 46 #[.int .i64 n] w fun e w' => e = .returned (.bool b) ∧ w = w' := by
  subst h
  exact l1Byte_any n w
set_option maxHeartbeats 4000000 in
theorem playFrames_spec (A : Option Addr) (n c : Nat) (ts : List THold) (w : World) (h : Reads w w.heap.size 2 A n (iv (flHold ts))) (hn : n ≤ 1000000000) :
    Calls Try.prog 18 #[.slice A n c] w (GivesB w (plL ts) (plB ts)) := by
  have hl := hold_len h
  have H := Lib.hid h
  have hown0 : (w.alloc (.cells #[] 3)).ownsRow w.heap.size 3 1 (.slice (some ⟨w.heap.size, 0, none⟩) 0 0) 0 (iv []) := World.ownsRow_lit w #[] 0 (Nat.le_refl _) (by simp [maxLen]) rfl
  have HO0 := Lib.hid hown0
  have HB0 := Lib.hid ((Below.refl w.heap.size w).alloc (Nat.le_refl _) (.cells #[] 3))
  clear h hown0
  go_enter Try.func18, Try.ntmps18
  go_wp2_with fail
  go_loopw [4, 5] (fun out i wr => ∃ (k : Nat) (A' : Option Addr) (c' : Nat) (os : List Int) (p : Option Int), k ≤ n ∧ i = .int .i64 k ∧ out = .slice A' os.length c' ∧ wr.ownsRow w.heap.size 3 1 (.slice A' os.length c') os.length (iv os) ∧ plR ts = (plFrom p os.length (ts.drop k)).map (os ++ ·) ∧ os.length ≤ 300 ∧ (k = 0 → p = none) ∧ (0 < k → p = some (ts.getD (k - 1) (0, 0)).1) ∧ Below w.heap.size w wr) (fun _ i _ => n - (intOf i).toNat)
  case atStart => exact ⟨0, _, _, [], none, Nat.zero_le _, rfl, rfl, HO0.out, by simp [plR], by simp, fun _ => rfl, fun h => by omega, HB0.out⟩
  case round =>
    obtain ⟨k, A', c', os, p, hk, rfl, rfl, hown, hall, hos, hk0, hk1, hb⟩ := hrel
    by_cases hlt : k < n
    · obtain ⟨b, off, e1, hb1, h0, h1⟩ := hold_spot (H.out.below hb) hlt
      have hpr : 0 < k → wr.cell? ⟨b, off + (k - 1) * 2, none⟩ = some (.int .i64 (ts.getD (k - 1) (0, 0)).1) := by
        intro hp
        obtain ⟨b', off', e1', _, h0', _⟩ := hold_spot (k := k - 1) (H.out.below hb) (by omega)
        rw [e1] at e1'
        injection e1' with e1'
        injection e1' with e2 e3
        subst e2 e3
        exact h0'
      have hbad := Lib.hid (fun hb => pl_bad (show k < ts.length by omega) hall hb)
      have hgood := Lib.hid (fun hb => pl_good (show k < ts.length by omega) hall hb)
      obtain ⟨t, ht⟩ : ∃ t, t = ts.getD k (0, 0) := ⟨_, rfl⟩
      rw [← ht] at h0 h1 hbad hgood
      have HT := Lib.hid ht
      obtain ⟨x, f⟩ := t
      have q0 : (0 : Int) ≤ (k : Int) := by omega
      have q1 : (k : Int) < (n : Int) := by omega
      have HO := Lib.hid hown
      have HB := Lib.hid hb
      have hsz := hb.size
      have hb2 : b < wr.heap.size := by omega
      subst e1
      clear hown hb hall ht
      have w0' : IntKind.i64.wrap (300 - (os.length : Int)) = 300 - (os.length : Int) := IntWalk.i64_in _ (by omega)
      cases b0 : inB f 1 (300 - (os.length : Int))
      · have b1 := trivial
        by_cases hp : 0 < k
        · have hf := hbad.out (by simp [plOk, b0])
          clear hpr hk0 hk1 hgood hbad
          go_wp2_with fail
          go_quiet ((first | ((with_reducible refine (l1In_eq b0 _).mono ?_); rintro e w' ⟨rfl, rfl⟩; exact ⟨rfl, _, rfl⟩) | ((with_reducible refine (l1Byte_eq b1 _).mono ?_); rintro e w' ⟨rfl, rfl⟩; exact ⟨rfl, _, rfl⟩)))
          go_wp2_with fail
          refine bodyPost_ret (results_tmp2 (by rfl) _ _ _) rfl ?_
          rw [hf.1, hf.2]
          have hbq := below_drewN HB.out nq
          exact ⟨_, _, rfl, World.ownsRow_lit _ #[] 0 hbq.size (by simp [maxLen]) rfl, hbq.alloc hbq.size _⟩
        · have hf := hbad.out (by simp [plOk, b0])
          clear hpr hk0 hk1 hgood hbad
          go_wp2_with fail
          go_quiet ((first | ((with_reducible refine (l1In_eq b0 _).mono ?_); rintro e w' ⟨rfl, rfl⟩; exact ⟨rfl, _, rfl⟩) | ((with_reducible refine (l1Byte_eq b1 _).mono ?_); rintro e w' ⟨rfl, rfl⟩; exact ⟨rfl, _, rfl⟩)))
          go_wp2_with fail
          refine bodyPost_ret (results_tmp2 (by rfl) _ _ _) rfl ?_
          rw [hf.1, hf.2]
          have hbq := below_drewN HB.out nq
          exact ⟨_, _, rfl, World.ownsRow_lit _ #[] 0 hbq.size (by simp [maxLen]) rfl, hbq.alloc hbq.size _⟩
      cases b1 : inB x 0 255
      · by_cases hp : 0 < k
        · have hf := hbad.out (by simp [plOk, b0, b1])
          clear hpr hk0 hk1 hgood hbad
          go_wp2_with fail
          go_quiet ((first | ((with_reducible refine (l1In_eq b0 _).mono ?_); rintro e w' ⟨rfl, rfl⟩; exact ⟨rfl, _, rfl⟩) | ((with_reducible refine (l1Byte_eq b1 _).mono ?_); rintro e w' ⟨rfl, rfl⟩; exact ⟨rfl, _, rfl⟩)))
          go_wp2_with fail
          refine bodyPost_ret (results_tmp2 (by rfl) _ _ _) rfl ?_
          rw [hf.1, hf.2]
          have hbq := below_drewN HB.out nq
          exact ⟨_, _, rfl, World.ownsRow_lit _ #[] 0 hbq.size (by simp [maxLen]) rfl, hbq.alloc hbq.size _⟩
        · have hf := hbad.out (by simp [plOk, b0, b1])
          clear hpr hk0 hk1 hgood hbad
          go_wp2_with fail
          go_quiet ((first | ((with_reducible refine (l1In_eq b0 _).mono ?_); rintro e w' ⟨rfl, rfl⟩; exact ⟨rfl, _, rfl⟩) | ((with_reducible refine (l1Byte_eq b1 _).mono ?_); rintro e w' ⟨rfl, rfl⟩; exact ⟨rfl, _, rfl⟩)))
          go_wp2_with fail
          refine bodyPost_ret (results_tmp2 (by rfl) _ _ _) rfl ?_
          rw [hf.1, hf.2]
          have hbq := below_drewN HB.out nq
          exact ⟨_, _, rfl, World.ownsRow_lit _ #[] 0 hbq.size (by simp [maxLen]) rfl, hbq.alloc hbq.size _⟩
      by_cases hp : 0 < k
      · have hc := hpr hp
        have hpe := hk1 hp
        have g1 : decide ((k : Int) > 0) = true := decide_eq_true (by omega)
        have w1' : IntKind.i64.wrap ((k : Int) - 1) = ((k - 1 : Nat) : Int) := by rw [IntWalk.i64_in _ (by omega)]; omega
        have w2' : (k : Int) - 1 = ((k - 1 : Nat) : Int) := by omega
        have w3' : ((k - 1 : Nat) : Int) < (n : Int) := by omega
        have w4' : IntKind.i64.wrap ((k - 1 : Nat) : Int) = ((k - 1 : Nat) : Int) := IntWalk.i64_in _ (by omega)
        have w5' : (0 : Int) ≤ ((k - 1 : Nat) : Int) := by omega
        generalize (ts.getD (k - 1) (0, 0)).1 = z at hc hpe
        by_cases he : z = x
        · have hf := hbad.out (by simp [plOk, b0, b1, hpe, he])
          have he2 : (z == x) = true := by simp [he]
          clear hpr hk0 hk1 hgood hbad hpe he
          go_wp2_with fail
          go_quiet ((first | ((with_reducible refine (l1In_eq b0 _).mono ?_); rintro e w' ⟨rfl, rfl⟩; exact ⟨rfl, _, rfl⟩) | ((with_reducible refine (l1Byte_eq b1 _).mono ?_); rintro e w' ⟨rfl, rfl⟩; exact ⟨rfl, _, rfl⟩)))
          go_wp2_with fail
          refine bodyPost_ret (results_tmp2 (by rfl) _ _ _) rfl ?_
          rw [hf.1, hf.2]
          have hbq := below_drewN HB.out nq
          exact ⟨_, _, rfl, World.ownsRow_lit _ #[] 0 hbq.size (by simp [maxLen]) rfl, hbq.alloc hbq.size _⟩
        · have hf := hgood.out (by simp [plOk, b0, b1, hpe]; exact he)
          have he2 : (z == x) = false := by simp [he]
          clear hpr hk0 hk1 hgood hbad hpe he
          go_wp2_with fail
          go_quiet ((first | ((with_reducible refine (l1In_eq b0 _).mono ?_); rintro e w' ⟨rfl, rfl⟩; exact ⟨rfl, _, rfl⟩) | ((with_reducible refine (l1Byte_eq b1 _).mono ?_); rintro e w' ⟨rfl, rfl⟩; exact ⟨rfl, _, rfl⟩)))
          obtain ⟨W, hW⟩ : ∃ W, W = wr.drewN nq := ⟨_, rfl⟩
          rw [← hW]
          replace HO := Lib.hid (show W.ownsRow w.heap.size 3 1 (.slice A' os.length c') os.length (iv os) by rw [hW]; exact own_drewN HO.out nq)
          replace HB := Lib.hid (show Below w.heap.size w W by rw [hW]; exact below_drewN HB.out nq)
          replace h1 : W.cell? ⟨b, off + k * 2 + 1, none⟩ = some (.int .i64 f) := by rw [hW]; exact h1
          clear hsz hW h0 hb1 hb2
          obtain ⟨F0, rfl⟩ := Int.eq_ofNat_of_zero_le (show 0 ≤ f by have := inB_iff.1 b0; omega)
          have hF1 := inB_iff.1 b0
          simp only [Int.toNat_natCast] at hf
          have HF := Lib.hid hf
          clear hf
          go_wp2_with fail
          go_loopw [4, 6] (fun out i wr' => ∃ (j : Nat) (A2 : Option Addr) (c2 : Nat), j ≤ F0 ∧ out = .slice A2 (os.length + j) c2 ∧ i = .int .i64 j ∧ wr'.ownsRow w.heap.size 3 1 (.slice A2 (os.length + j) c2) (os.length + j) (iv (os ++ List.replicate j x)) ∧ Below w.heap.size w wr') (fun _ i _ => F0 - (intOf i).toNat)
          case atStart => exact ⟨0, A', c', Nat.zero_le _, rfl, rfl, by simpa using HO.out, HB.out⟩
          case round =>
            obtain ⟨j, A2, c2, hj, rfl, rfl, o1, b2⟩ := hrel
            replace HO := Lib.hid o1
            replace HB := Lib.hid b2
            clear h1 o1
            obtain ⟨-, y0, y1⟩ := hold_cells (H.out.below b2) hlt
            rw [← HT.out] at y0 y1
            clear b2
            by_cases hlj : j < F0
            · have q5 : (j : Int) < (F0 : Int) := by omega
              go_wp2_with (at_builtin; refine push_own_g _ rfl _ _ rfl w.heap.size (os.length + j) c2 wr.heap.size 1 A2 (os ++ List.replicate j x) x rfl rfl (HO.out.alloc _) (cell_new _ _ _ 0) (by omega) (Nat.le_trans HB.out.size (size_alloc_le _ _)) ?_; intro A3 c3 w3 o3 gr3; rw [rep_snoc] at o3; replace HB := Lib.hid ((HB.out.alloc HB.out.size _).grown gr3 (Nat.le_trans HB.out.size (size_alloc_le _ _)) (fun k hk => (HO.out.lt k hk).1)); replace o3 := Lib.hid o3; clear gr3)
              go_roundw
              case rel => exact ⟨j + 1, A3, c3, by omega, rfl, by go_num, o3.out, HB.out⟩
              case measure => simp [intOf]; omega
            · obtain rfl : j = F0 := by omega
              have q5 : ¬ ((j : Int) < (j : Int)) := by omega
              go_wp2_with fail
              go_roundw
              case rel => exact ⟨k + 1, A2, c2, os ++ List.replicate j x, some x, by omega, by go_num, by rw [List.length_append, List.length_replicate], by rw [List.length_append, List.length_replicate]; exact HO.out, HF.out, by rw [List.length_append, List.length_replicate]; omega, fun h => by omega, fun _ => by rw [Nat.add_sub_cancel, ← HT.out], HB.out⟩
              case measure => simp [intOf]; omega
      · have hpe := hk0 (by omega)
        have g1 : decide ((k : Int) > 0) = false := decide_eq_false (by omega)
        have hf := hgood.out (by simp [plOk, b0, b1, hpe])
        clear hpr hk0 hk1 hgood hbad hpe
        go_wp2_with fail
        go_quiet ((first | ((with_reducible refine (l1In_eq b0 _).mono ?_); rintro e w' ⟨rfl, rfl⟩; exact ⟨rfl, _, rfl⟩) | ((with_reducible refine (l1Byte_eq b1 _).mono ?_); rintro e w' ⟨rfl, rfl⟩; exact ⟨rfl, _, rfl⟩)))
        obtain ⟨W, hW⟩ : ∃ W, W = wr.drewN nq := ⟨_, rfl⟩
        rw [← hW]
        replace HO := Lib.hid (show W.ownsRow w.heap.size 3 1 (.slice A' os.length c') os.length (iv os) by rw [hW]; exact own_drewN HO.out nq)
        replace HB := Lib.hid (show Below w.heap.size w W by rw [hW]; exact below_drewN HB.out nq)
        replace h1 : W.cell? ⟨b, off + k * 2 + 1, none⟩ = some (.int .i64 f) := by rw [hW]; exact h1
        clear hsz hW h0 hb1 hb2
        obtain ⟨F0, rfl⟩ := Int.eq_ofNat_of_zero_le (show 0 ≤ f by have := inB_iff.1 b0; omega)
        have hF1 := inB_iff.1 b0
        simp only [Int.toNat_natCast] at hf
        have HF := Lib.hid hf
        clear hf
        go_wp2_with fail
        go_loopw [4, 6] (fun out i wr' => ∃ (j : Nat) (A2 : Option Addr) (c2 : Nat), j ≤ F0 ∧ out = .slice A2 (os.length + j) c2 ∧ i = .int .i64 j ∧ wr'.ownsRow w.heap.size 3 1 (.slice A2 (os.length + j) c2) (os.length + j) (iv (os ++ List.replicate j x)) ∧ Below w.heap.size w wr') (fun _ i _ => F0 - (intOf i).toNat)
        case atStart => exact ⟨0, A', c', Nat.zero_le _, rfl, rfl, by simpa using HO.out, HB.out⟩
        case round =>
          obtain ⟨j, A2, c2, hj, rfl, rfl, o1, b2⟩ := hrel
          replace HO := Lib.hid o1
          replace HB := Lib.hid b2
          clear h1 o1
          obtain ⟨-, y0, y1⟩ := hold_cells (H.out.below b2) hlt
          rw [← HT.out] at y0 y1
          clear b2
          by_cases hlj : j < F0
          · have q5 : (j : Int) < (F0 : Int) := by omega
            go_wp2_with (at_builtin; refine push_own_g _ rfl _ _ rfl w.heap.size (os.length + j) c2 wr.heap.size 1 A2 (os ++ List.replicate j x) x rfl rfl (HO.out.alloc _) (cell_new _ _ _ 0) (by omega) (Nat.le_trans HB.out.size (size_alloc_le _ _)) ?_; intro A3 c3 w3 o3 gr3; rw [rep_snoc] at o3; replace HB := Lib.hid ((HB.out.alloc HB.out.size _).grown gr3 (Nat.le_trans HB.out.size (size_alloc_le _ _)) (fun k hk => (HO.out.lt k hk).1)); replace o3 := Lib.hid o3; clear gr3)
            go_roundw
            case rel => exact ⟨j + 1, A3, c3, by omega, rfl, by go_num, o3.out, HB.out⟩
            case measure => simp [intOf]; omega
          · obtain rfl : j = F0 := by omega
            have q5 : ¬ ((j : Int) < (j : Int)) := by omega
            go_wp2_with fail
            go_roundw
            case rel => exact ⟨k + 1, A2, c2, os ++ List.replicate j x, some x, by omega, by go_num, by rw [List.length_append, List.length_replicate], by rw [List.length_append, List.length_replicate]; exact HO.out, HF.out, by rw [List.length_append, List.length_replicate]; omega, fun h => by omega, fun _ => by rw [Nat.add_sub_cancel, ← HT.out], HB.out⟩
            case measure => simp [intOf]; omega
    · obtain rfl : k = n := by omega
      obtain ⟨r1, r2⟩ := pl_end (by omega) hall
      go_wp2_with fail
      refine bodyPost_ret (results_tmp2 (by rfl) _ _ _) rfl ?_
      rw [r1, r2]
      exact ⟨A', c', rfl, hown, hb⟩
def btA (ts : List THold) (n : Int) : Int := if plB ts && decide (0 ≤ n ∧ n < (plL ts).length) then (plL ts).getD n.toNat 0 else 0
set_option maxHeartbeats 1000000 in
theorem buttonsAt_impl (A : Option Addr) (L c : Nat) (ts : List THold) (n : Int) (w : World) (h : Reads w w.heap.size 2 A L (iv (flHold ts))) (hL : L ≤ 1000000000) :
    Calls Try.prog 16 #[.slice A L c, .int .i64 n] w fun e w' => e = .returned (.int .i64 (btA ts n)) ∧ Below w.heap.size w w' := by
  have hp := fun (c : Nat) => playFrames_impl A L c ts w h hL
  have HP := Lib.hid hp
  clear hp
  cases hok : plB ts
  · have hr : btA ts n = 0 := by simp [btA, hok]
    rw [hr]
    go_enter Try.func16, Try.ntmps16
    go_wp2_with (first | (go_at_call 19; refine (HP.out _).mono ?_; rintro e w2 ⟨A2, c2, rfl, o2, b2⟩; rw [hok]; replace o2 := Lib.hid o2; replace b2 := Lib.hid b2) | (fail))
    go_ret
    exact ⟨rfl, b2.out⟩
  by_cases h0 : 0 ≤ n
  · by_cases h1 : n < ((plL ts).length : Int)
    · obtain ⟨N, rfl⟩ := Int.eq_ofNat_of_zero_le h0
      have hr : btA ts N = (plL ts).getD N 0 := by
        unfold btA
        rw [if_pos (by simp only [hok, Bool.true_and, decide_eq_true_eq]; omega), Int.toNat_natCast]
      rw [hr]
      obtain ⟨Z, hZ⟩ : ∃ Z, Z = (plL ts).getD N 0 := ⟨_, rfl⟩
      rw [← hZ]
      replace hZ := Lib.hid hZ
      have hin : inB (N : Int) 0 (((plL ts).length : Int) - 1) = true := inB_true (by omega)
      have hlen := plL_len ts
      have w0' : IntKind.i64.wrap (((plL ts).length : Int) - 1) = ((plL ts).length : Int) - 1 := IntWalk.i64_in _ (by omega)
      have hN : N < (plL ts).length := by omega
      have g2 : ¬ ((N : Int) ≥ ((plL ts).length : Int)) := by omega
      have g3 : ¬ ((N : Int) < 0) := by omega
      go_enter Try.func16, Try.ntmps16
      go_wp2_with (first | (go_at_call 19; refine (HP.out _).mono ?_; rintro e w2 ⟨A2, c2, rfl, o2, b2⟩; rw [hok]; obtain ⟨bb, oo, e2, _, hz⟩ := (own_ints o2).spot hN; rw [← hZ.out] at hz; subst e2; replace o2 := Lib.hid o2; replace b2 := Lib.hid b2) | (fail; rw [hin]))
      go_ret
      exact ⟨rfl, b2.out⟩
    · have hr : btA ts n = 0 := by unfold btA; rw [if_neg (by simp; intro _ _; omega)]
      rw [hr]
      have hin : inB n 0 (((plL ts).length : Int) - 1) = false := inB_out (by omega)
      have hlen := plL_len ts
      have w0' : IntKind.i64.wrap (((plL ts).length : Int) - 1) = ((plL ts).length : Int) - 1 := IntWalk.i64_in _ (by omega)
      have g2 : n ≥ ((plL ts).length : Int) := by omega
      have g3 : ¬ (n < 0) := by omega
      go_enter Try.func16, Try.ntmps16
      go_wp2_with (first | (go_at_call 19; refine (HP.out _).mono ?_; rintro e w2 ⟨A2, c2, rfl, o2, b2⟩; rw [hok]; replace o2 := Lib.hid o2; replace b2 := Lib.hid b2) | (fail; rw [hin]))
      go_ret
      exact ⟨rfl, b2.out⟩
  · have hr : btA ts n = 0 := by unfold btA; rw [if_neg (by simp; intro _ h; exact absurd h h0)]
    rw [hr]
    have hin : inB n 0 (((plL ts).length : Int) - 1) = false := inB_out (by omega)
    have hlen := plL_len ts
    have w0' : IntKind.i64.wrap (((plL ts).length : Int) - 1) = ((plL ts).length : Int) - 1 := IntWalk.i64_in _ (by omega)
    have g3 : n < 0 := by omega
    go_enter Try.func16, Try.ntmps16
    go_wp2_with (first | (go_at_call 19; refine (HP.out _).mono ?_; rintro e w2 ⟨A2, c2, rfl, o2, b2⟩; rw [hok]; replace o2 := Lib.hid o2; replace b2 := Lib.hid b2) | (fail; rw [hin]))
    go_ret
    exact ⟨rfl, b2.out⟩
set_option maxHeartbeats 1000000 in
theorem buttonsAt_spec (A : Option Addr) (L c : Nat) (ts : List THold) (n : Int) (w : World) (h : Reads w w.heap.size 2 A L (iv (flHold ts))) (hL : L ≤ 1000000000) :
    Calls Try.prog 14 #[.slice A L c, .int .i64 n] w fun e w' => e = .returned (.int .i64 (btA ts n)) ∧ Below w.heap.size w w' := by
  have hp := fun (c : Nat) => playFrames_spec A L c ts w h hL
  have HP := Lib.hid hp
  clear hp
  cases hok : plB ts
  · have hr : btA ts n = 0 := by simp [btA, hok]
    rw [hr]
    go_enter Try.func14, Try.ntmps14
    go_wp2_with (first | (go_at_call 18; refine (HP.out _).mono ?_; rintro e w2 ⟨A2, c2, rfl, o2, b2⟩; rw [hok]; replace o2 := Lib.hid o2; replace b2 := Lib.hid b2) | (go_at_call 43; refine (l1In_any _ _ _ _).mono ?_; rintro e w' ⟨rfl, rfl⟩))
    go_ret
    exact ⟨rfl, b2.out⟩
  by_cases h0 : 0 ≤ n
  · by_cases h1 : n < ((plL ts).length : Int)
    · obtain ⟨N, rfl⟩ := Int.eq_ofNat_of_zero_le h0
      have hr : btA ts N = (plL ts).getD N 0 := by
        unfold btA
        rw [if_pos (by simp only [hok, Bool.true_and, decide_eq_true_eq]; omega), Int.toNat_natCast]
      rw [hr]
      obtain ⟨Z, hZ⟩ : ∃ Z, Z = (plL ts).getD N 0 := ⟨_, rfl⟩
      rw [← hZ]
      replace hZ := Lib.hid hZ
      have hin : inB (N : Int) 0 (((plL ts).length : Int) - 1) = true := inB_true (by omega)
      have hlen := plL_len ts
      have w0' : IntKind.i64.wrap (((plL ts).length : Int) - 1) = ((plL ts).length : Int) - 1 := IntWalk.i64_in _ (by omega)
      have hN : N < (plL ts).length := by omega
      have g2 : ¬ ((N : Int) ≥ ((plL ts).length : Int)) := by omega
      have g3 : ¬ ((N : Int) < 0) := by omega
      go_enter Try.func14, Try.ntmps14
      go_wp2_with (first | (go_at_call 18; refine (HP.out _).mono ?_; rintro e w2 ⟨A2, c2, rfl, o2, b2⟩; rw [hok]; obtain ⟨bb, oo, e2, _, hz⟩ := (own_ints o2).spot hN; rw [← hZ.out] at hz; subst e2; replace o2 := Lib.hid o2; replace b2 := Lib.hid b2) | (go_at_call 43; refine (l1In_any _ _ _ _).mono ?_; rintro e w' ⟨rfl, rfl⟩; rw [hin]))
      go_ret
      exact ⟨rfl, b2.out⟩
    · have hr : btA ts n = 0 := by unfold btA; rw [if_neg (by simp; intro _ _; omega)]
      rw [hr]
      have hin : inB n 0 (((plL ts).length : Int) - 1) = false := inB_out (by omega)
      have hlen := plL_len ts
      have w0' : IntKind.i64.wrap (((plL ts).length : Int) - 1) = ((plL ts).length : Int) - 1 := IntWalk.i64_in _ (by omega)
      have g2 : n ≥ ((plL ts).length : Int) := by omega
      have g3 : ¬ (n < 0) := by omega
      go_enter Try.func14, Try.ntmps14
      go_wp2_with (first | (go_at_call 18; refine (HP.out _).mono ?_; rintro e w2 ⟨A2, c2, rfl, o2, b2⟩; rw [hok]; replace o2 := Lib.hid o2; replace b2 := Lib.hid b2) | (go_at_call 43; refine (l1In_any _ _ _ _).mono ?_; rintro e w' ⟨rfl, rfl⟩; rw [hin]))
      go_ret
      exact ⟨rfl, b2.out⟩
  · have hr : btA ts n = 0 := by unfold btA; rw [if_neg (by simp; intro _ h; exact absurd h h0)]
    rw [hr]
    have hin : inB n 0 (((plL ts).length : Int) - 1) = false := inB_out (by omega)
    have hlen := plL_len ts
    have w0' : IntKind.i64.wrap (((plL ts).length : Int) - 1) = ((plL ts).length : Int) - 1 := IntWalk.i64_in _ (by omega)
    have g3 : n < 0 := by omega
    go_enter Try.func14, Try.ntmps14
    go_wp2_with (first | (go_at_call 18; refine (HP.out _).mono ?_; rintro e w2 ⟨A2, c2, rfl, o2, b2⟩; rw [hok]; replace o2 := Lib.hid o2; replace b2 := Lib.hid b2) | (go_at_call 43; refine (l1In_any _ _ _ _).mono ?_; rintro e w' ⟨rfl, rfl⟩; rw [hin]))
    go_ret
    exact ⟨rfl, b2.out⟩
end Go.Proofs.Ytmdebahhlgfboaa
