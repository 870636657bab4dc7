/-
  ReadSave: contracts in both packages. No condition but that the list's length stays in range.
-/
import Derived.Test.YtgmcbpnnololmaaBytes
import Derived.Deep.RegionHeld3
import Derived.Deep.DrawnRows
import Derived.Deep.AppendLies
namespace Go.Proofs.Ytgmcbpnnololmaa
open Go.RowKit
set_option linter.unusedVariables false
set_option linter.unusedSimpArgs false
attribute [local go_sem ↓] Go.wp_at_zero Go.wp_at_succ
theorem Ints.row {w : World} {B n : Nat} {A : Option Addr} {xs : List Int} (h : Ints w B A n xs) (hn : 0 < n) :
    ∃ b off, A = some ⟨b, off, none⟩ ∧ b < B ∧ ∀ k, k < n → w.cell? ⟨b, off + k, none⟩ = some (.int .i64 (xs.getD k 0)) := by
  obtain ⟨b, off, e, hb, _⟩ := h.spot hn
  refine ⟨b, off, e, hb, fun k hk => ?_⟩
  obtain ⟨b', off', e', _, hc⟩ := h.spot hk
  rw [e] at e'
  injection e' with e'
  injection e' with e1 e2
  subst e1 e2
  exact hc
theorem res3 {fn : Func} {t u v : Tmp} (h : fn.results = #[.tmp t, .tmp u, .tmp v]) (tmps : Array Value) (P : Program) (w : World) :
    (results fn tmps).run P w = .ok (.tuple #[tmps.getD t undef, tmps.getD u undef, tmps.getD v undef]) w := by
  simp [results, h]
theorem res4 {fn : Func} {t u v x : Tmp} (h : fn.results = #[.tmp t, .tmp u, .tmp v, .tmp x]) (tmps : Array Value) (P : Program) (w : World) :
    (results fn tmps).run P w = .ok (.tuple #[tmps.getD t undef, tmps.getD u undef, tmps.getD v undef, tmps.getD x undef]) w := by
  simp [results, h]
def readE (zs : List Int) : Nat := 3 + (zs.getD 2 0).toNat
def readOk (zs : List Int) : Bool := allB zs && decide (4 ≤ zs.length) && decide (zs.getD 2 0 ≤ 32) && decide (4 + zs.getD 2 0 ≤ zs.length) && decide (zs.getD (readE zs) 0 = chk (zs.take (readE zs)))
def readN (zs : List Int) : Int := if readOk zs then 256 * zs.getD 0 0 + zs.getD 1 0 else 0
def readD (zs : List Int) : List Int := if readOk zs then (zs.take (readE zs)).drop 3 else []
/-- What a call gives that returns a number, a list of numbers and a Boolean. -/
def GivesT (w : World) (m : Int) (xs : List Int) (ok : Bool) (e : Ending) (w' : World) : Prop := ∃ A c, e = .returned (.tuple #[.int .i64 m, .slice A xs.length c, .bool ok]) ∧ w'.ownsRow w.heap.size 3 1 (.slice A xs.length c) xs.length (iv xs) ∧ Below w.heap.size w w'
theorem readN_no {zs : List Int} (h : readOk zs = false) : readN zs = 0 := by simp [readN, h]
theorem readD_no {zs : List Int} (h : readOk zs = false) : readD zs = [] := by simp [readD, h]
theorem readD_len (zs : List Int) : (readD zs).length ≤ 32 := by
  unfold readD
  split
  · rename_i h
    simp [readOk, readE] at h ⊢
    omega
  · simp
set_option maxHeartbeats 2000000 in
theorem readSave_impl (A : Option Addr) (n c : Nat) (zs : List Int) (w : World) (h : Ints w w.heap.size A n zs) (hn : n ≤ 1000000000) (hnc : n ≤ c) :
    Calls Try.prog 19 #[.slice A n c] w (GivesT w (readN zs) (readD zs) (readOk zs)) := by
  have hl := h.len
  have HI := Lib.hid h
  clear h
  cases ha : allB zs
  · have hbad : readOk zs = false := by simp [readOk, ha]
    rw [hbad, readN_no hbad, readD_no hbad]
    clear hbad
    by_cases h4 : (n : Int) < 4
    · go_enter Try.func19, Try.ntmps19
      go_wp2_with (go_at_call 35; refine (allBytes_any _ _ _ zs _ HI.out hn).mono ?_; rintro e w' ⟨rfl, rfl⟩; rw [ha])
      refine bodyPost_ret (res3 (by rfl) _ _ _) rfl ?_
      exact ⟨_, _, rfl, World.ownsRow_nil _ _ _ _, Below.refl _ _⟩
    · go_enter Try.func19, Try.ntmps19
      go_wp2_with (go_at_call 35; refine (allBytes_any _ _ _ zs _ HI.out hn).mono ?_; rintro e w' ⟨rfl, rfl⟩; rw [ha])
      refine bodyPost_ret (res3 (by rfl) _ _ _) rfl ?_
      exact ⟨_, _, rfl, World.ownsRow_nil _ _ _ _, Below.refl _ _⟩
  by_cases h4 : 4 ≤ n
  case neg =>
    have hbad : readOk zs = false := by (simp [readOk, ha, hl]; omega)
    rw [hbad, readN_no hbad, readD_no hbad]
    clear hbad
    have q1 : (n : Int) < 4 := by omega
    go_enter Try.func19, Try.ntmps19
    go_wp2_with (go_at_call 35; refine (allBytes_any _ _ _ zs _ HI.out hn).mono ?_; rintro e w' ⟨rfl, rfl⟩; rw [ha])
    refine bodyPost_ret (res3 (by rfl) _ _ _) rfl ?_
    exact ⟨_, _, rfl, World.ownsRow_nil _ _ _ _, Below.refl _ _⟩
  have q1 : ¬ ((n : Int) < 4) := by omega
  obtain ⟨b, off, rfl, hb, hcell⟩ := HI.out.row (by omega)
  have c0 := hcell 0 (by omega)
  have c1 := hcell 1 (by omega)
  have c2 := hcell 2 (by omega)
  have d2 := inB_iff.1 (allB_get ha (k := 2) (by omega))
  have d0 := inB_iff.1 (allB_get ha (k := 0) (by omega))
  have d1 := inB_iff.1 (allB_get ha (k := 1) (by omega))
  obtain ⟨z0, e0⟩ : ∃ z, z = zs.getD 0 0 := ⟨_, rfl⟩
  obtain ⟨z1, e1⟩ : ∃ z, z = zs.getD 1 0 := ⟨_, rfl⟩
  obtain ⟨k2, e2⟩ := Int.eq_ofNat_of_zero_le d2.1
  rw [← e0] at c0 d0
  rw [← e1] at c1 d1
  rw [e2] at c2 d2
  have E0 := Lib.hid e0
  have E1 := Lib.hid e1
  have E2 := Lib.hid e2
  have HC := Lib.hid hcell
  have eE : readE zs = 3 + k2 := by simp only [readE, e2]; omega
  have EE := Lib.hid eE
  clear e0 e1 hcell eE
  have hn2 : 2 < n := by omega
  by_cases h32 : k2 ≤ 32
  case neg =>
    have hbad : readOk zs = false := by (cases hq : readOk zs; rfl; exfalso; simp only [readOk, Bool.and_eq_true, decide_eq_true_eq, E2.out] at hq; omega)
    rw [hbad, readN_no hbad, readD_no hbad]
    clear hbad
    clear e2
    have q2 : (k2 : Int) > 32 := by omega
    go_enter Try.func19, Try.ntmps19
    go_wp2_with (go_at_call 35; refine (allBytes_any _ _ _ zs _ HI.out hn).mono ?_; rintro e w' ⟨rfl, rfl⟩; rw [ha])
    refine bodyPost_ret (res3 (by rfl) _ _ _) rfl ?_
    exact ⟨_, _, rfl, World.ownsRow_nil _ _ _ _, Below.refl _ _⟩
  have q2 : ¬ ((k2 : Int) > 32) := by omega
  by_cases h5 : 4 + k2 ≤ n
  case neg =>
    have hbad : readOk zs = false := by (cases hq : readOk zs; rfl; exfalso; simp only [readOk, Bool.and_eq_true, decide_eq_true_eq, E2.out] at hq; omega)
    rw [hbad, readN_no hbad, readD_no hbad]
    clear hbad
    clear e2
    have q3 : (n : Int) < 4 + (k2 : Int) := by omega
    go_enter Try.func19, Try.ntmps19
    go_wp2_with (go_at_call 35; refine (allBytes_any _ _ _ zs _ HI.out hn).mono ?_; rintro e w' ⟨rfl, rfl⟩; rw [ha])
    refine bodyPost_ret (res3 (by rfl) _ _ _) rfl ?_
    exact ⟨_, _, rfl, World.ownsRow_nil _ _ _ _, Below.refl _ _⟩
  have q3 : ¬ ((n : Int) < 4 + (k2 : Int)) := by omega
  clear e2
  have cE := HC.out (3 + k2) (by omega)
  obtain ⟨zE, eZ⟩ : ∃ z, z = zs.getD (3 + k2) 0 := ⟨_, rfl⟩
  rw [← eZ] at cE
  have EZ := Lib.hid eZ
  clear eZ
  have t1 : (3 + (k2 : Int)).toNat = 3 + k2 := by omega
  have q4 : (0 : Int) ≤ 3 + (k2 : Int) := by omega
  have q5 : (3 : Int) + (k2 : Int) ≤ (c : Int) := by omega
  have q6 : (3 : Int) + (k2 : Int) < (n : Int) := by omega
  obtain ⟨ck, eC⟩ : ∃ z, z = chk (zs.take (3 + k2)) := ⟨_, rfl⟩
  have hck := Lib.hid (fun W (hW : Ints W W.heap.size (some ⟨b, off, none⟩) (3 + k2) (zs.take (3 + k2))) => eC ▸ checkByte_any (some ⟨b, off, none⟩) (3 + k2) c (zs.take (3 + k2)) W hW (by omega) (allB_sub _ ha))
  have EC := Lib.hid eC
  clear eC
  have HT := Lib.hid (HI.out.take (k := 3 + k2) (by omega))
  by_cases hz : zE = ck
  case neg =>
    have hbad : readOk zs = false := by (cases hq : readOk zs; rfl; exfalso; simp only [readOk, Bool.and_eq_true, decide_eq_true_eq] at hq; rw [EE.out, ← EZ.out, ← EC.out] at hq; exact hz hq.2)
    rw [hbad, readN_no hbad, readD_no hbad]
    clear hbad
    go_enter Try.func19, Try.ntmps19
    go_wp2_with (go_at_call 35; refine (allBytes_any _ _ _ zs _ HI.out hn).mono ?_; rintro e w' ⟨rfl, rfl⟩; rw [ha])
    go_quiet ((exact (hck.out _ (HT.out.drewN _)).mono (by rintro e w' ⟨rfl, rfl⟩; exact ⟨rfl, _, rfl⟩)))
    go_wp2_with fail
    refine bodyPost_ret (res3 (by rfl) _ _ _) rfl ?_
    exact ⟨_, _, rfl, World.ownsRow_nil _ _ _ _, below_drewN (Below.refl _ _) _⟩
  have hok : readOk zs = true := by
    simp only [readOk, Bool.and_eq_true, decide_eq_true_eq]
    rw [EE.out, ← EZ.out, ← EC.out, E2.out]
    exact ⟨⟨⟨⟨ha, by omega⟩, by omega⟩, by omega⟩, hz⟩
  rw [show readN zs = 256 * z0 + z1 by rw [readN, hok, E0.out, E1.out]; rfl, show readD zs = (zs.take (3 + k2)).drop 3 by rw [readD, hok, EE.out]; rfl, hok]
  clear hok
  subst hz
  have HD := Lib.hid (HT.out.drop (k := 3) (cap := c) (by omega) (by omega))
  have hne : ¬ c = 3 := by omega
  have hlk : ((zs.take (3 + k2)).drop 3).length = k2 := by simp [hl]; omega
  generalize hxs : (zs.take (3 + k2)).drop 3 = xs at HD hlk ⊢
  have q7 : (3 : Int) ≤ 3 + (k2 : Int) := by omega
  clear hxs
  rw [if_neg hne, show 3 + k2 - 3 = k2 by omega] at HD
  subst hlk
  have HD : Hid (Ints w w.heap.size (some ⟨b, off + 3, none⟩) xs.length xs) := HD
  have w1 : IntKind.i64.wrap (256 * z0) = 256 * z0 := IntWalk.i64_in _ (by omega)
  have w2 : IntKind.i64.wrap (256 * z0 + z1) = 256 * z0 + z1 := IntWalk.i64_in _ (by omega)
  have qa : (0 : Int) < (n : Int) := by omega
  have qb : (1 : Int) < (n : Int) := by omega
  have qc : 0 < n := by omega
  have qd : 1 < n := by omega
  go_enter Try.func19, Try.ntmps19
  go_wp2_with (go_at_call 35; refine (allBytes_any _ _ _ zs _ HI.out hn).mono ?_; rintro e w' ⟨rfl, rfl⟩; rw [ha])
  go_quiet ((exact (hck.out _ (HT.out.drewN _)).mono (by rintro e w' ⟨rfl, rfl⟩; exact ⟨rfl, _, rfl⟩)))
  go_wp2_with fail
  go_region_held3 (fun w' => w'.cell? ⟨b, off, none⟩ = some (.int .i64 z0) ∧ w'.cell? ⟨b, off + 1, none⟩ = some (.int .i64 z1) ∧ Below w.heap.size w w') (first | exact ⟨c0, c1, below_drewN (Below.refl _ _) _⟩ | exact ⟨c0, c1, (below_drewN (Below.refl _ _) nq).drew⟩ | exact ⟨(b5.cell hb).trans c0, (b5.cell hb).trans c1, (below_drewN (Below.refl _ _) _).trans b5⟩) ((go_at_call 37; refine (clone_any _ _ _ xs _ (HD.out.drewN _) (by omega) (by intro h; cases h)).mono ?_; rintro e w5 ⟨A5, c5, rfl, o5, b5⟩))
  go_wp2_with fail
  refine bodyPost_ret (res3 (by rfl) _ _ _) rfl ?_
  exact ⟨A5, c5, rfl, o5, (below_drewN (Below.refl _ _) _).trans b5⟩
/-- append of a list that only is read, at a step of a region that draws. -/
theorem step_push_list {ops : Array Oper} {o : Oper} {a : Act} {K : Act → World → Prop} {Q : Exit → Act → World → Prop} {E : Prop} {w : World} (hgd : o.guard = none) (s x : Operand)
    (ho : o.op = .call { callee := .builtin .append, args := #[s, x], argTypes := #[22, 22] })
    (base n c m d B : Nat) (A : Option Addr) (ad : Addr) (xs ys : List Int) (hs : a.eval s = .slice A n c) (hx : a.eval x = .slice (some ad) m d)
    (hown : w.ownsRow base 3 1 (.slice A n c) n (iv xs)) (hy : Ints w B (some ad) m ys) (hn : n + m ≤ 1000000000) (hb : base ≤ w.heap.size)
    (h : ∀ A' c' w', w'.ownsRow base 3 1 (.slice A' (n + m) c') (n + m) (iv (xs ++ ys)) → Below base w w' → K (a.put o.dst (.slice A' (n + m) c')) w') :
    if Region.wanted o (yielded ops a.tmps) = true then Oper.wp Try.prog o a w K Q else E := by
  have hw : Region.wanted o (yielded ops a.tmps) = true := by simp [Region.wanted, hgd]
  rw [if_pos hw]
  obtain ⟨i0, hi0, hz0, hz1, hz2⟩ := info_parts int_info
  have hnews : ∀ j u, (iv ys)[j]? = some u → w.cell? (ad.add j) = some u := by
    intro j u hj
    have hm : 0 < m := by
      obtain ⟨hk, _⟩ := iv_get hj
      have := hy.len; omega
    obtain ⟨ad', e, _, hc⟩ := hy.2 hm
    injection e with e
    subst e
    exact hc j u hj
  have h1 : ∀ u ∈ iv ys, u.oneCell' = true := by
    intro u hu
    simp only [iv, List.mem_map] at hu
    obtain ⟨z, _, rfl⟩ := hu
    rfl
  obtain ⟨v', w', hr, h2, h3, h4, h5⟩ := run_append_own_at (P := Try.prog) w base 22 o.type 3 i0 (.int .i64 0) 1 8 Try.underlying22 hi0 hz0 hz1 hz2 rfl (by omega) _ n (iv xs) hown ad m d (iv ys) hy.1 hnews h1 (by simp only [maxLen]; omega) (by omega) hb
  unfold Oper.wp execOp
  simp only [ho, resolve, invoke, builtin, Sem.run_bind, Sem.run_pure, Result.andThen_ok, List.map_toArray, List.map_cons, List.map_nil, hs, hx, hr]
  obtain ⟨A', c', rfl⟩ := own_form h2
  rw [← iv_append] at h2
  exact h A' c' w' h2 (below_of_grown h3 hb fun k hk => (hown.lt k hk).1)
set_option maxHeartbeats 2000000 in
theorem readSave_spec (A : Option Addr) (n c : Nat) (zs : List Int) (w : World) (h : Ints w w.heap.size A n zs) (hn : n ≤ 1000000000) (hnc : n ≤ c) :
    Calls Try.prog 18 #[.slice A n c] w (GivesT w (readN zs) (readD zs) (readOk zs)) := by
  have HOE : Hid (∀ W : World, (W.alloc (.cells #[] 3)).ownsRow W.heap.size 3 1 (.slice (some ⟨W.heap.size, 0, none⟩) 0 0) 0 (iv [])) := Lib.hid fun W => World.ownsRow_lit W #[] 0 (Nat.le_refl _) (by simp [maxLen]) rfl
  have hl := h.len
  have HI := Lib.hid h
  clear h
  cases ha : allB zs
  · have hbad : readOk zs = false := by simp [readOk, ha]
    rw [hbad, readN_no hbad, readD_no hbad]
    clear hbad
    by_cases h4 : (n : Int) < 4
    · go_enter Try.func18, Try.ntmps18
      go_wp2_with (go_at_call 32; refine (l2Bytes_any _ _ _ zs _ HI.out hn).mono ?_; rintro e w' ⟨rfl, rfl⟩; rw [ha])
      refine bodyPost_ret (res3 (by rfl) _ _ _) rfl ?_
      exact ⟨_, _, rfl, HOE.out _, (Below.refl _ _).alloc (Nat.le_refl _) _⟩
    · go_enter Try.func18, Try.ntmps18
      go_wp2_with (go_at_call 32; refine (l2Bytes_any _ _ _ zs _ HI.out hn).mono ?_; rintro e w' ⟨rfl, rfl⟩; rw [ha])
      refine bodyPost_ret (res3 (by rfl) _ _ _) rfl ?_
      exact ⟨_, _, rfl, HOE.out _, (Below.refl _ _).alloc (Nat.le_refl _) _⟩
  by_cases h4 : 4 ≤ n
  case neg =>
    have hbad : readOk zs = false := by (simp [readOk, ha, hl]; omega)
    rw [hbad, readN_no hbad, readD_no hbad]
    clear hbad
    have q1 : (n : Int) < 4 := by omega
    go_enter Try.func18, Try.ntmps18
    go_wp2_with (go_at_call 32; refine (l2Bytes_any _ _ _ zs _ HI.out hn).mono ?_; rintro e w' ⟨rfl, rfl⟩; rw [ha])
    refine bodyPost_ret (res3 (by rfl) _ _ _) rfl ?_
    exact ⟨_, _, rfl, HOE.out _, (Below.refl _ _).alloc (Nat.le_refl _) _⟩
  have q1 : ¬ ((n : Int) < 4) := by omega
  obtain ⟨b, off, rfl, hb, hcell⟩ := HI.out.row (by omega)
  have c0 := hcell 0 (by omega)
  have c1 := hcell 1 (by omega)
  have c2 := hcell 2 (by omega)
  have d2 := inB_iff.1 (allB_get ha (k := 2) (by omega))
  have d0 := inB_iff.1 (allB_get ha (k := 0) (by omega))
  have d1 := inB_iff.1 (allB_get ha (k := 1) (by omega))
  obtain ⟨z0, e0⟩ : ∃ z, z = zs.getD 0 0 := ⟨_, rfl⟩
  obtain ⟨z1, e1⟩ : ∃ z, z = zs.getD 1 0 := ⟨_, rfl⟩
  obtain ⟨k2, e2⟩ := Int.eq_ofNat_of_zero_le d2.1
  rw [← e0] at c0 d0
  rw [← e1] at c1 d1
  rw [e2] at c2 d2
  have E0 := Lib.hid e0
  have E1 := Lib.hid e1
  have E2 := Lib.hid e2
  have HC := Lib.hid hcell
  have eE : readE zs = 3 + k2 := by simp only [readE, e2]; omega
  have EE := Lib.hid eE
  clear e0 e1 hcell eE
  have hn2 : 2 < n := by omega
  by_cases h32 : k2 ≤ 32
  case neg =>
    have hbad : readOk zs = false := by (cases hq : readOk zs; rfl; exfalso; simp only [readOk, Bool.and_eq_true, decide_eq_true_eq, E2.out] at hq; omega)
    rw [hbad, readN_no hbad, readD_no hbad]
    clear hbad
    clear e2
    have q2 : (k2 : Int) > 32 := by omega
    go_enter Try.func18, Try.ntmps18
    go_wp2_with (go_at_call 32; refine (l2Bytes_any _ _ _ zs _ HI.out hn).mono ?_; rintro e w' ⟨rfl, rfl⟩; rw [ha])
    refine bodyPost_ret (res3 (by rfl) _ _ _) rfl ?_
    exact ⟨_, _, rfl, HOE.out _, (Below.refl _ _).alloc (Nat.le_refl _) _⟩
  have q2 : ¬ ((k2 : Int) > 32) := by omega
  by_cases h5 : 4 + k2 ≤ n
  case neg =>
    have hbad : readOk zs = false := by (cases hq : readOk zs; rfl; exfalso; simp only [readOk, Bool.and_eq_true, decide_eq_true_eq, E2.out] at hq; omega)
    rw [hbad, readN_no hbad, readD_no hbad]
    clear hbad
    clear e2
    have q3 : (n : Int) < (k2 : Int) + 4 := by omega
    go_enter Try.func18, Try.ntmps18
    go_wp2_with (go_at_call 32; refine (l2Bytes_any _ _ _ zs _ HI.out hn).mono ?_; rintro e w' ⟨rfl, rfl⟩; rw [ha])
    refine bodyPost_ret (res3 (by rfl) _ _ _) rfl ?_
    exact ⟨_, _, rfl, HOE.out _, (Below.refl _ _).alloc (Nat.le_refl _) _⟩
  have q3 : ¬ ((n : Int) < (k2 : Int) + 4) := by omega
  clear e2
  have cE := HC.out (3 + k2) (by omega)
  obtain ⟨zE, eZ⟩ : ∃ z, z = zs.getD (3 + k2) 0 := ⟨_, rfl⟩
  rw [← eZ] at cE
  have EZ := Lib.hid eZ
  clear eZ
  have t1 : (3 + (k2 : Int)).toNat = 3 + k2 := by omega
  have q4 : (0 : Int) ≤ 3 + (k2 : Int) := by omega
  have q5 : (3 : Int) + (k2 : Int) ≤ (c : Int) := by omega
  have q6 : (3 : Int) + (k2 : Int) < (n : Int) := by omega
  obtain ⟨ck, eC⟩ : ∃ z, z = chk (zs.take (3 + k2)) := ⟨_, rfl⟩
  have hck := Lib.hid (fun W (hW : Ints W W.heap.size (some ⟨b, off, none⟩) (3 + k2) (zs.take (3 + k2))) => eC ▸ l17Sum_any (some ⟨b, off, none⟩) (3 + k2) c (zs.take (3 + k2)) W hW (by omega) (allB_sub _ ha))
  have EC := Lib.hid eC
  clear eC
  have HT := Lib.hid (HI.out.take (k := 3 + k2) (by omega))
  by_cases hz : zE = ck
  case neg =>
    have hbad : readOk zs = false := by (cases hq : readOk zs; rfl; exfalso; simp only [readOk, Bool.and_eq_true, decide_eq_true_eq] at hq; rw [EE.out, ← EZ.out, ← EC.out] at hq; exact hz hq.2)
    rw [hbad, readN_no hbad, readD_no hbad]
    clear hbad
    go_enter Try.func18, Try.ntmps18
    go_wp2_with (go_at_call 32; refine (l2Bytes_any _ _ _ zs _ HI.out hn).mono ?_; rintro e w' ⟨rfl, rfl⟩; rw [ha])
    go_quiet ((exact (hck.out _ (HT.out.drewN _)).mono (by rintro e w' ⟨rfl, rfl⟩; exact ⟨rfl, _, rfl⟩)))
    go_wp2_with fail
    refine bodyPost_ret (res3 (by rfl) _ _ _) rfl ?_
    exact ⟨_, _, rfl, HOE.out _, (below_drewN (Below.refl _ _) _).alloc (Nat.le_refl _) _⟩
  have hok : readOk zs = true := by
    simp only [readOk, Bool.and_eq_true, decide_eq_true_eq]
    rw [EE.out, ← EZ.out, ← EC.out, E2.out]
    exact ⟨⟨⟨⟨ha, by omega⟩, by omega⟩, by omega⟩, hz⟩
  rw [show readN zs = 256 * z0 + z1 by rw [readN, hok, E0.out, E1.out]; rfl, show readD zs = (zs.take (3 + k2)).drop 3 by rw [readD, hok, EE.out]; rfl, hok]
  clear hok
  subst hz
  have HD := Lib.hid (HT.out.drop (k := 3) (cap := c) (by omega) (by omega))
  have hne : ¬ c = 3 := by omega
  have hlk : ((zs.take (3 + k2)).drop 3).length = k2 := by simp [hl]; omega
  generalize hxs : (zs.take (3 + k2)).drop 3 = xs at HD hlk ⊢
  have q7 : (3 : Int) ≤ 3 + (k2 : Int) := by omega
  clear hxs
  rw [if_neg hne, show 3 + k2 - 3 = k2 by omega] at HD
  subst hlk
  have HD : Hid (Ints w w.heap.size (some ⟨b, off + 3, none⟩) xs.length xs) := HD
  have w1 : IntKind.i64.wrap (256 * z0) = 256 * z0 := IntWalk.i64_in _ (by omega)
  have w2 : IntKind.i64.wrap (256 * z0 + z1) = 256 * z0 + z1 := IntWalk.i64_in _ (by omega)
  have qa : (0 : Int) < (n : Int) := by omega
  have qb : (1 : Int) < (n : Int) := by omega
  have qc : 0 < n := by omega
  have qd : 1 < n := by omega
  go_enter Try.func18, Try.ntmps18
  go_wp2_with (go_at_call 32; refine (l2Bytes_any _ _ _ zs _ HI.out hn).mono ?_; rintro e w' ⟨rfl, rfl⟩; rw [ha])
  go_quiet ((exact (hck.out _ (HT.out.drewN _)).mono (by rintro e w' ⟨rfl, rfl⟩; exact ⟨rfl, _, rfl⟩)))
  go_wp2_with fail
  go_region_held3 (fun w' => w'.cell? ⟨b, off, none⟩ = some (.int .i64 z0) ∧ w'.cell? ⟨b, off + 1, none⟩ = some (.int .i64 z1) ∧ Below w.heap.size w w') (first | exact ⟨c0, c1, below_drewN (Below.refl _ _) _⟩ | exact ⟨c0, c1, (below_drewN (Below.refl _ _) nq).drew⟩ | exact ⟨(World.cell?_alloc_lt _ _ _ hb).trans c0, (World.cell?_alloc_lt _ _ _ hb).trans c1, (below_drewN (Below.refl _ _) (nq + 1)).alloc (Nat.le_refl _) _⟩ | exact ⟨(b5.cell hb).trans ((World.cell?_alloc_lt _ _ _ hb).trans c0), (b5.cell hb).trans ((World.cell?_alloc_lt _ _ _ hb).trans c1), ((below_drewN (Below.refl _ _) (nq + 1)).alloc (Nat.le_refl _) _).trans b5⟩) ((refine step_push_list (by rfl) _ _ (by rfl) w.heap.size 0 0 xs.length (c - 3) w.heap.size _ _ [] xs (by rfl) (by rfl) (HOE.out _) ((HD.out.drewN (nq + 1)).below ((Below.refl w.heap.size (w.drewN (nq + 1))).alloc (Nat.le_refl w.heap.size) _)) (by omega) (by simp) ?_; intro A5 c5 w5 o5 b5))
  go_wp2_with fail
  refine bodyPost_ret (res3 (by rfl) _ _ _) rfl ?_
  rw [List.nil_append, Nat.zero_add] at o5
  exact ⟨A5, c5, by simp only [Nat.zero_add]; rfl, o5, ((below_drewN (Below.refl _ _) (nq + 1)).alloc (Nat.le_refl _) _).trans b5⟩
end Go.Proofs.Ytgmcbpnnololmaa
