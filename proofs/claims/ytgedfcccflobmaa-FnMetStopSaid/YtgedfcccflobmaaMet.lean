/-
  Reading a machine's memory, conditions, MetStop: the walks of both packages. No condition but that the machine is valid where it is read.
-/
import Derived.Test.YtgedfcccflobmaaMac
import Derived.Test.YtgedfcccflobmaaStopV
import Derived.Test.YtgedfcccflobmaaFam
namespace Go.Proofs.Ytgedfcccflobmaa
open Go.RowKit
set_option linter.unusedVariables false
set_option linter.unusedSimpArgs false
/-- The byte at an address. -/
def pk (rs : List Int) (rows : List (List Int)) (bank at_ : Int) : Int :=
  if at_ < 512 then rs.getD (at_ % 256).toNat 0 else if at_ < 768 then (rows.getD 0 []).getD (at_ - 512).toNat 0 else (rows.getD bank.toNat []).getD (at_ - 768).toNat 0
theorem mem_facts {rs : List Int} {rows : List (List Int)} {bank : Int} (h : memB rs rows bank = true) : (rs.length = 256 ∧ allB rs = true) ∧ (1 ≤ rows.length ∧ rows.length ≤ 4) ∧ rows.all rowB = true ∧ 0 ≤ bank ∧ bank < rows.length := by
  unfold memB banksB at h
  simp only [Bool.and_eq_true, decide_eq_true_eq, inB_iff] at h
  obtain ⟨h1, h2, ⟨h3, h4⟩, h5⟩ := h
  exact ⟨⟨h1, h2⟩, by omega, h4, by omega⟩
theorem getD_at {xs : List Int} {k : Nat} (hk : k < xs.length) : xs.getD k 0 = xs[k] := by
  rw [List.getD_eq_getElem?_getD, List.getElem?_eq_getElem hk, Option.getD_some]
theorem pk_in {rs : List Int} {rows : List (List Int)} {bank at_ : Int} (h : memB rs rows bank = true) (h0 : 0 ≤ at_) (h1 : at_ ≤ 1023) : 0 ≤ pk rs rows bank at_ ∧ pk rs rows bank at_ ≤ 255 := by
  obtain ⟨⟨r1, r2⟩, ⟨r3, r4⟩, r5, r6, r7⟩ := mem_facts h
  unfold pk
  split
  · exact inB_iff.1 (allB_get r2 (by omega))
  · split
    · obtain ⟨s1, s2⟩ := rows_get r5 (show 0 < rows.length by omega)
      exact inB_iff.1 (allB_get s2 (by omega))
    · obtain ⟨s1, s2⟩ := rows_get r5 (show bank.toNat < rows.length by omega)
      exact inB_iff.1 (allB_get s2 (by omega))
theorem drewN_add (w : World) (m q : Nat) : (w.drewN m).drewN q = w.drewN (m + q) := by simp [World.drewN, Nat.add_assoc]
set_option maxRecDepth 4000 in
set_option maxHeartbeats 1000000 in
theorem peek_any (A : Option Addr) (n c : Nat) (rs : List Int) (R : Option Addr) (rn rc : Nat) (rows : List (List Int)) (bank at_ : Int) (b : Nat) (w : World) (h : MemRd w A n rs R rn rows) (hx : MemBox w b A n c R rn rc bank)
    (hm : memB rs rows bank = true) (h0 : 0 ≤ at_) (h1 : at_ ≤ 1023) :
    Calls Try.prog 56 #[.pointer (some ⟨b, 0, none⟩), .int .i64 at_] w fun e w' => e = .returned (.int .i64 (pk rs rows bank at_)) ∧ ∃ q, w' = w.drewN q := by
  obtain ⟨⟨r1, r2⟩, ⟨r3, r4⟩, r5, r6, r7⟩ := mem_facts hm
  have hnl := h.ram.len
  have hrl := h.rom.1
  obtain ⟨-, c0, c1, c2⟩ := hx
  unfold pk
  by_cases hA : at_ < 512
  · rw [if_pos hA]
    obtain ⟨j, hj⟩ : ∃ j : Nat, at_ % 256 = (j : Int) := ⟨(at_ % 256).toNat, by omega⟩
    have ht : at_.tmod 256 = (j : Int) := (Int.tmod_eq_emod_of_nonneg h0).trans hj
    have hj2 : j < n := by omega
    rw [hj, Int.toNat_natCast]
    obtain ⟨ad, rfl, hb1, hc⟩ := h.ram.at_ hj2
    rw [getD_at (by omega)]
    generalize rs[j]'(by omega) = z at hc ⊢
    have q0 : (0 : Int) ≤ (j : Int) := by omega
    have q1 : (j : Int) < (n : Int) := by omega
    clear r1 hnl hrl h hm
    replace hj := Lib.hid hj
    go_enter Try.func56, Try.ntmps56
    go_wp2_with fail
    go_ret
    exact ⟨rfl, 0, rfl⟩
  rw [if_neg hA]
  by_cases hB : at_ < 768
  · rw [if_pos hB]
    obtain ⟨j, hj⟩ : ∃ j : Nat, at_ - 512 = (j : Int) := ⟨(at_ - 512).toNat, by omega⟩
    obtain ⟨s1, s2⟩ := rows_get r5 (show 0 < rows.length by omega)
    obtain ⟨rb, off, A', c', rfl, hbb, k1, hc1, hc2, hi⟩ := h.rom.spot (show 0 < rn by omega)
    rw [Nat.add_zero] at k1
    rw [hj, Int.toNat_natCast]
    obtain ⟨xs, hxs⟩ : ∃ xs, rows.getD 0 [] = xs := ⟨_, rfl⟩
    rw [hxs] at s1 hi k1 ⊢
    obtain ⟨l, hl⟩ : ∃ l, xs.length = l := ⟨_, rfl⟩
    rw [hl] at k1 hi s1
    have hj2 : j < l := by omega
    obtain ⟨ad, rfl, hb1, hc⟩ := hi.at_ hj2
    rw [getD_at (by omega)]
    generalize xs[j]'(by omega) = z at hc ⊢
    have q0 : (0 : Int) ≤ (j : Int) := by omega
    have q1 : (j : Int) < (l : Int) := by omega
    have q2 : (0 : Int) < (rn : Int) := by omega
    have q3 : 0 < rn := by omega
    clear r1 hnl hrl h hm s1 s2 hl hxs hi
    go_enter Try.func56, Try.ntmps56
    have hj3 : IntKind.i64.wrap (at_ - 512) = (j : Int) := by rw [hj]; exact IntWalk.i64_in _ (by omega)
    go_wp2_with fail
    go_ret
    exact ⟨rfl, 0, rfl⟩
  · rw [if_neg hB]
    obtain ⟨j, hj⟩ : ∃ j : Nat, at_ - 768 = (j : Int) := ⟨(at_ - 768).toNat, by omega⟩
    obtain ⟨bk, rfl⟩ := Int.eq_ofNat_of_zero_le r6
    rw [hj, Int.toNat_natCast, Int.toNat_natCast]
    obtain ⟨s1, s2⟩ := rows_get r5 (show bk < rows.length by omega)
    obtain ⟨rb, off, A', c', rfl, hbb, k1, hc1, hc2, hi⟩ := h.rom.spot (show bk < rn by omega)
    obtain ⟨xs, hxs⟩ : ∃ xs, rows.getD bk [] = xs := ⟨_, rfl⟩
    rw [hxs] at s1 hi k1 ⊢
    obtain ⟨l, hl⟩ : ∃ l, xs.length = l := ⟨_, rfl⟩
    rw [hl] at k1 hi s1
    have hj2 : j < l := by omega
    obtain ⟨ad, rfl, hb1, hc⟩ := hi.at_ hj2
    rw [getD_at (by omega)]
    generalize xs[j]'(by omega) = z at hc ⊢
    have q0 : (0 : Int) ≤ (j : Int) := by omega
    have q1 : (j : Int) < (l : Int) := by omega
    have q2 : (0 : Int) ≤ (bk : Int) := by omega
    have q3 : (bk : Int) < (rn : Int) := by omega
    clear r1 hnl hrl h hm s1 s2 hl hxs hi r6 r7
    go_enter Try.func56, Try.ntmps56
    have hj3 : IntKind.i64.wrap (at_ - 768) = (j : Int) := by rw [hj]; exact IntWalk.i64_in _ (by omega)
    go_wp2_with fail
    go_quiet (fail)
    go_wp2_with fail
    go_ret
    exact ⟨rfl, _, rfl⟩
set_option maxRecDepth 4000 in
set_option maxHeartbeats 1000000 in
theorem l2Read_any (A : Option Addr) (n c : Nat) (rs : List Int) (R : Option Addr) (rn rc : Nat) (rows : List (List Int)) (bank at_ : Int) (w : World) (h : MemRd w A n rs R rn rows)
    (hm : memB rs rows bank = true) (h0 : 0 ≤ at_) (h1 : at_ ≤ 1023) :
    Calls Try.prog 73 #[.agg #[.slice A n c, .slice R rn rc, .int .i64 bank], .int .i64 at_] w fun e w' => e = .returned (.int .i64 (pk rs rows bank at_)) ∧ Below w.heap.size w w' := by
  have hb0 : Below w.heap.size w (w.alloc (.cells #[.slice A n c, .slice R rn rc, .int .i64 bank] 26)) := (Below.refl _ _).alloc (Nat.le_refl _) _
  replace h := h.below hb0
  have HB0 := Lib.hid hb0
  clear hb0
  obtain ⟨⟨r1, r2⟩, ⟨r3, r4⟩, r5, r6, r7⟩ := mem_facts hm
  have hnl := h.ram.len
  have hrl := h.rom.1
  unfold pk
  by_cases hA : at_ < 512
  · rw [if_pos hA]
    obtain ⟨j, hj⟩ : ∃ j : Nat, at_ % 256 = (j : Int) := ⟨(at_ % 256).toNat, by omega⟩
    have ht : at_.tmod 256 = (j : Int) := (Int.tmod_eq_emod_of_nonneg h0).trans hj
    have hj2 : j < n := by omega
    rw [hj, Int.toNat_natCast]
    obtain ⟨ad, rfl, hb1, hc⟩ := h.ram.at_ hj2
    rw [getD_at (by omega)]
    generalize rs[j]'(by omega) = z at hc ⊢
    have q0 : (0 : Int) ≤ (j : Int) := by omega
    have q1 : (j : Int) < (n : Int) := by omega
    clear r1 hnl hrl h hm
    replace hj := Lib.hid hj
    go_enter Try.func73, Try.ntmps73
    go_wp2_with fail
    go_ret
    exact ⟨rfl, HB0.out⟩
  rw [if_neg hA]
  by_cases hB : at_ < 768
  · rw [if_pos hB]
    obtain ⟨j, hj⟩ : ∃ j : Nat, at_ - 512 = (j : Int) := ⟨(at_ - 512).toNat, by omega⟩
    obtain ⟨s1, s2⟩ := rows_get r5 (show 0 < rows.length by omega)
    obtain ⟨rb, off, A', c', rfl, hbb, k1, hc1, hc2, hi⟩ := h.rom.spot (show 0 < rn by omega)
    rw [Nat.add_zero] at k1
    rw [hj, Int.toNat_natCast]
    obtain ⟨xs, hxs⟩ : ∃ xs, rows.getD 0 [] = xs := ⟨_, rfl⟩
    rw [hxs] at s1 hi k1 ⊢
    obtain ⟨l, hl⟩ : ∃ l, xs.length = l := ⟨_, rfl⟩
    rw [hl] at k1 hi s1
    have hj2 : j < l := by omega
    obtain ⟨ad, rfl, hb1, hc⟩ := hi.at_ hj2
    rw [getD_at (by omega)]
    generalize xs[j]'(by omega) = z at hc ⊢
    have q0 : (0 : Int) ≤ (j : Int) := by omega
    have q1 : (j : Int) < (l : Int) := by omega
    have q2 : (0 : Int) < (rn : Int) := by omega
    have q3 : 0 < rn := by omega
    clear r1 hnl hrl h hm s1 s2 hl hxs hi
    go_enter Try.func73, Try.ntmps73
    have hj3 : IntKind.i64.wrap (at_ - 512) = (j : Int) := by rw [hj]; exact IntWalk.i64_in _ (by omega)
    go_wp2_with fail
    go_ret
    exact ⟨rfl, HB0.out⟩
  · rw [if_neg hB]
    obtain ⟨j, hj⟩ : ∃ j : Nat, at_ - 768 = (j : Int) := ⟨(at_ - 768).toNat, by omega⟩
    obtain ⟨bk, rfl⟩ := Int.eq_ofNat_of_zero_le r6
    rw [hj, Int.toNat_natCast, Int.toNat_natCast]
    obtain ⟨s1, s2⟩ := rows_get r5 (show bk < rows.length by omega)
    obtain ⟨rb, off, A', c', rfl, hbb, k1, hc1, hc2, hi⟩ := h.rom.spot (show bk < rn by omega)
    obtain ⟨xs, hxs⟩ : ∃ xs, rows.getD bk [] = xs := ⟨_, rfl⟩
    rw [hxs] at s1 hi k1 ⊢
    obtain ⟨l, hl⟩ : ∃ l, xs.length = l := ⟨_, rfl⟩
    rw [hl] at k1 hi s1
    have hj2 : j < l := by omega
    obtain ⟨ad, rfl, hb1, hc⟩ := hi.at_ hj2
    rw [getD_at (by omega)]
    generalize xs[j]'(by omega) = z at hc ⊢
    have q0 : (0 : Int) ≤ (j : Int) := by omega
    have q1 : (j : Int) < (l : Int) := by omega
    have q2 : (0 : Int) ≤ (bk : Int) := by omega
    have q3 : (bk : Int) < (rn : Int) := by omega
    clear r1 hnl hrl h hm s1 s2 hl hxs hi r6 r7
    go_enter Try.func73, Try.ntmps73
    have hj3 : IntKind.i64.wrap (at_ - 768) = (j : Int) := by rw [hj]; exact IntWalk.i64_in _ (by omega)
    go_wp2_with fail
    go_ret
    exact ⟨rfl, HB0.out⟩
/-- A condition is met. -/
def metP (x : Mch) (t : Tri) : Bool := if t.1 = 1 then x.pc == t.2.1 else if t.1 = 2 then x.a == t.2.2 else pk x.rs x.rows x.bank t.2.1 == t.2.2
def metI (x : Mch) (ts : List Tri) : Int := if ts.findIdx (metP x) < ts.length then (ts.findIdx (metP x) : Int) else -1
theorem metI_at {x : Mch} {ts : List Tri} {k : Nat} (hk : k < ts.length) (h : metP x (ts.getD k (0, 0, 0)) = true) (hb : ∀ j, j < k → metP x (ts.getD j (0, 0, 0)) = false) : metI x ts = k := by
  have e : ts.findIdx (metP x) = k := by
    rw [List.findIdx_eq hk]
    rw [List.getD_eq_getElem?_getD, List.getElem?_eq_getElem hk, Option.getD_some] at h
    refine ⟨h, fun j hj => ?_⟩
    have := hb j hj
    rwa [List.getD_eq_getElem?_getD, List.getElem?_eq_getElem (by omega), Option.getD_some] at this
  unfold metI
  rw [e, if_pos hk]
theorem metI_none {x : Mch} {ts : List Tri} (hb : ∀ j, j < ts.length → metP x (ts.getD j (0, 0, 0)) = false) : metI x ts = -1 := by
  unfold metI
  rw [if_neg]
  intro h
  rw [List.findIdx_lt_length] at h
  obtain ⟨t, ht, hp⟩ := h
  obtain ⟨j, hj, rfl⟩ := List.mem_iff_getElem.1 ht
  have := hb j hj
  rw [List.getD_eq_getElem?_getD, List.getElem?_eq_getElem hj, Option.getD_some] at this
  rw [this] at hp; cases hp
theorem stop_at {ts : List Tri} {k : Nat} (h : stopsB ts = true) (hk : k < ts.length) : (1 ≤ (ts.getD k (0, 0, 0)).1 ∧ (ts.getD k (0, 0, 0)).1 ≤ 3) ∧ (0 ≤ (ts.getD k (0, 0, 0)).2.1 ∧ (ts.getD k (0, 0, 0)).2.1 ≤ 1023) ∧ (0 ≤ (ts.getD k (0, 0, 0)).2.2 ∧ (ts.getD k (0, 0, 0)).2.2 ≤ 255) := by
  unfold stopsB at h
  rw [Bool.and_eq_true] at h
  rw [List.getD_eq_getElem?_getD, List.getElem?_eq_getElem hk, Option.getD_some]
  have := List.all_eq_true.1 h.2 _ (List.getElem_mem hk)
  simpa [stopP, Bool.and_eq_true, inB_iff] using this
theorem condition1 (p v : Int) (w : World) :
    Calls Try.prog 72 #[.agg #[.int .i64 1, .int .i64 p, .int .i64 v]] w fun e w' => e = .returned (.iface 110 (.int .i64 p)) ∧ Below w.heap.size w w' := by
  go_enter Try.func72, Try.ntmps72
  go_wp2_with fail
  go_ret
  exact ⟨rfl, (Below.refl _ _).alloc (Nat.le_refl _) _⟩
theorem condition2 (p v : Int) (w : World) :
    Calls Try.prog 72 #[.agg #[.int .i64 2, .int .i64 p, .int .i64 v]] w fun e w' => e = .returned (.iface 111 (.int .i64 v)) ∧ Below w.heap.size w w' := by
  go_enter Try.func72, Try.ntmps72
  go_wp2_with fail
  go_ret
  exact ⟨rfl, (Below.refl _ _).alloc (Nat.le_refl _) _⟩
theorem condition3 (p v : Int) (w : World) :
    Calls Try.prog 72 #[.agg #[.int .i64 3, .int .i64 p, .int .i64 v]] w fun e w' => e = .returned (.iface 113 (.agg #[.int .i64 p, .int .i64 v])) ∧ Below w.heap.size w w' := by
  go_enter Try.func72, Try.ntmps72
  go_wp2_with fail
  go_ret
  exact ⟨rfl, (Below.refl _ _).alloc (Nat.le_refl _) _⟩
theorem met1 (p : Int) (x : Mch) (b : Nat) (w : World) (hx : MBox w b x) :
    Calls Try.prog 118 #[.int .i64 p, .pointer (some ⟨b, 0, none⟩)] w fun e w' => e = .returned (.bool (x.pc == p)) ∧ w = w' := by
  have c4 := hx.c4
  go_enter Try.func118, Try.ntmps118
  go_wp2_with fail
  go_ret
  exact ⟨rfl, rfl⟩
theorem met2 (v : Int) (x : Mch) (b : Nat) (w : World) (hx : MBox w b x) :
    Calls Try.prog 119 #[.int .i64 v, .pointer (some ⟨b, 0, none⟩)] w fun e w' => e = .returned (.bool (x.a == v)) ∧ w = w' := by
  have c4 := hx.c3
  go_enter Try.func119, Try.ntmps119
  go_wp2_with fail
  go_ret
  exact ⟨rfl, rfl⟩
theorem met3 (p v : Int) (x : Mch) (b : Nat) (w : World) (h : MRd w x) (hx : MBox w b x) (hm : memB x.rs x.rows x.bank = true) (h0 : 0 ≤ p) (h1 : p ≤ 1023) :
    Calls Try.prog 120 #[.agg #[.int .i64 p, .int .i64 v], .pointer (some ⟨b, 0, none⟩)] w fun e w' => e = .returned (.bool (pk x.rs x.rows x.bank p == v)) ∧ Below w.heap.size w w' := by
  have hb0 : Below w.heap.size w (w.alloc (.cells #[.int .i64 p, .int .i64 v] 113)) := (Below.refl _ _).alloc (Nat.le_refl _) _
  have HX := Lib.hid (h.below hb0)
  have BX := Lib.hid (hx.below hb0)
  have HB0 := Lib.hid hb0
  clear h hx hb0
  go_enter Try.func120, Try.ntmps120
  go_wp2_with fail
  go_quiet ((exact (peek_any _ _ _ _ _ _ _ _ _ p b _ (HX.out.m.below (below_drewN (Below.refl _ _) _)) (BX.out.m.below (below_drewN (Below.refl _ _) _)) hm h0 h1).mono (by rintro e w' ⟨rfl, q, rfl⟩; exact ⟨rfl, _, drewN_add _ _ _⟩)))
  go_wp2_with fail
  go_ret
  exact ⟨rfl, below_drewN HB0.out _⟩
set_option maxHeartbeats 1000000 in
theorem metStop_any (x : Mch) (b : Nat) (A : Option Addr) (n c : Nat) (ts : List Tri) (w : World) (h : MRd w x) (hx : MBox w b x) (hm : memB x.rs x.rows x.bank = true) (ht : Reads w w.heap.size 3 A n (iv (fl3 ts))) (hn : n ≤ 1000000000) (hs : stopsB ts = true) :
    Calls Try.prog 49 #[.pointer (some ⟨b, 0, none⟩), .slice A n c] w fun e w' => e = .returned (.int .i64 (metI x ts)) ∧ Below w.heap.size w w' := by
  have hl := Tri.len ht
  have HX := Lib.hid h
  have BX := Lib.hid hx
  have HT := Lib.hid ht
  clear h hx ht
  go_enter Try.func49, Try.ntmps49
  go_wp2_with fail
  go_loopw [9] (fun i wr => ∃ k : Nat, k ≤ n ∧ i = .int .i64 k ∧ (∀ j, j < k → metP x (ts.getD j (0, 0, 0)) = false) ∧ Below w.heap.size w wr) (fun i _ => n - (intOf i).toNat)
  case atStart => exact ⟨0, Nat.zero_le _, rfl, fun j hj => by omega, Below.refl _ _⟩
  case round =>
    obtain ⟨k, hk, rfl, hall, hb⟩ := hrel
    by_cases hlt : k < n
    · obtain ⟨tb, off, e1, tbl, t0, t1, t2⟩ := Tri.spot (HT.out.below hb) hlt
      subst e1
      obtain ⟨⟨s1, s2⟩, ⟨s3, s4⟩, s5, s6⟩ := stop_at hs (k := k) (by omega)
      have hfound := Lib.hid (fun hp => metI_at (x := x) (ts := ts) (k := k) (by omega) hp hall)
      have hnext := Lib.hid (show metP x (ts.getD k (0, 0, 0)) = false → ∀ j, j < k + 1 → metP x (ts.getD j (0, 0, 0)) = false from fun hp j hj => by rcases Nat.lt_or_ge j k with q | q; exact hall j q; obtain rfl : j = k := (by omega); exact hp)
      obtain ⟨⟨x1, x2, x3⟩, hT⟩ : ∃ t, ts.getD k (0, 0, 0) = t := ⟨_, rfl⟩
      rw [hT] at t0 t1 t2 s1 s2 s3 s4 s5 s6
      simp only at t0 t1 t2 s1 s2 s3 s4 s5 s6
      replace hT := Lib.hid hT
      replace hl := Lib.hid hl
      have q0 : (0 : Int) ≤ (k : Int) := by omega
      have q1 : (k : Int) < (n : Int) := by omega
      have HB := Lib.hid hb
      clear hall hb
      by_cases h1 : x1 = 1
      · subst h1
        have hme : metP x (ts.getD k (0, 0, 0)) = (x.pc == x2) := by rw [hT.out]; unfold metP; simp
        have HB2 := Lib.hid (HB.out.alloc HB.out.size (.cells #[.int .i64 1, .int .i64 x2, .int .i64 x3] 74))
        replace hme := Lib.hid hme
        cases hz : (x.pc == x2)
        · go_wp2_with (first | (go_at_call 72; refine (condition1 x2 x3 _).mono ?_; rintro e w5 ⟨rfl, b5⟩; replace b5 := Lib.hid b5) | ((go_at_call 118; refine (met1 x2 x b _ (BX.out.below (below_step HB2.out b5.out HB2.out.size))).mono ?_; rintro e w' ⟨rfl, rfl⟩; have b6 := Lib.hid (below_step HB2.out b5.out HB2.out.size)); rw [hz]))
          go_roundw
          case rel => exact ⟨k + 1, by omega, by go_num, hnext.out (hme.out.trans hz), b6.out⟩
          case measure => simp [intOf]; omega
        · go_wp2_with (first | (go_at_call 72; refine (condition1 x2 x3 _).mono ?_; rintro e w5 ⟨rfl, b5⟩; replace b5 := Lib.hid b5) | ((go_at_call 118; refine (met1 x2 x b _ (BX.out.below (below_step HB2.out b5.out HB2.out.size))).mono ?_; rintro e w' ⟨rfl, rfl⟩; have b6 := Lib.hid (below_step HB2.out b5.out HB2.out.size)); rw [hz]))
          go_ret
          exact ⟨by rw [hfound.out (hme.out.trans hz)]; rfl, b6.out⟩
      by_cases h2 : x1 = 2
      · subst h2
        have hme : metP x (ts.getD k (0, 0, 0)) = (x.a == x3) := by rw [hT.out]; unfold metP; simp
        have HB2 := Lib.hid (HB.out.alloc HB.out.size (.cells #[.int .i64 2, .int .i64 x2, .int .i64 x3] 74))
        replace hme := Lib.hid hme
        cases hz : (x.a == x3)
        · go_wp2_with (first | (go_at_call 72; refine (condition2 x2 x3 _).mono ?_; rintro e w5 ⟨rfl, b5⟩; replace b5 := Lib.hid b5) | ((go_at_call 119; refine (met2 x3 x b _ (BX.out.below (below_step HB2.out b5.out HB2.out.size))).mono ?_; rintro e w' ⟨rfl, rfl⟩; have b6 := Lib.hid (below_step HB2.out b5.out HB2.out.size)); rw [hz]))
          go_roundw
          case rel => exact ⟨k + 1, by omega, by go_num, hnext.out (hme.out.trans hz), b6.out⟩
          case measure => simp [intOf]; omega
        · go_wp2_with (first | (go_at_call 72; refine (condition2 x2 x3 _).mono ?_; rintro e w5 ⟨rfl, b5⟩; replace b5 := Lib.hid b5) | ((go_at_call 119; refine (met2 x3 x b _ (BX.out.below (below_step HB2.out b5.out HB2.out.size))).mono ?_; rintro e w' ⟨rfl, rfl⟩; have b6 := Lib.hid (below_step HB2.out b5.out HB2.out.size)); rw [hz]))
          go_ret
          exact ⟨by rw [hfound.out (hme.out.trans hz)]; rfl, b6.out⟩
      · obtain rfl : x1 = 3 := by omega
        have hme : metP x (ts.getD k (0, 0, 0)) = (pk x.rs x.rows x.bank x2 == x3) := by rw [hT.out]; unfold metP; simp
        have HB2 := Lib.hid (HB.out.alloc HB.out.size (.cells #[.int .i64 3, .int .i64 x2, .int .i64 x3] 74))
        replace hme := Lib.hid hme
        cases hz : (pk x.rs x.rows x.bank x2 == x3)
        · go_wp2_with (first | (go_at_call 72; refine (condition3 x2 x3 _).mono ?_; rintro e w5 ⟨rfl, b5⟩; replace b5 := Lib.hid b5) | ((go_at_call 120; refine (met3 x2 x3 x b _ (HX.out.below (below_step HB2.out b5.out HB2.out.size)) (BX.out.below (below_step HB2.out b5.out HB2.out.size)) hm s3 s4).mono ?_; rintro e w6 ⟨rfl, b6⟩; replace b6 := Lib.hid (below_step (below_step HB2.out b5.out HB2.out.size) b6 (below_step HB2.out b5.out HB2.out.size).size)); rw [hz]))
          go_roundw
          case rel => exact ⟨k + 1, by omega, by go_num, hnext.out (hme.out.trans hz), b6.out⟩
          case measure => simp [intOf]; omega
        · go_wp2_with (first | (go_at_call 72; refine (condition3 x2 x3 _).mono ?_; rintro e w5 ⟨rfl, b5⟩; replace b5 := Lib.hid b5) | ((go_at_call 120; refine (met3 x2 x3 x b _ (HX.out.below (below_step HB2.out b5.out HB2.out.size)) (BX.out.below (below_step HB2.out b5.out HB2.out.size)) hm s3 s4).mono ?_; rintro e w6 ⟨rfl, b6⟩; replace b6 := Lib.hid (below_step (below_step HB2.out b5.out HB2.out.size) b6 (below_step HB2.out b5.out HB2.out.size).size)); rw [hz]))
          go_ret
          exact ⟨by rw [hfound.out (hme.out.trans hz)]; rfl, b6.out⟩
    · obtain rfl : k = n := by omega
      have hnone := Lib.hid (metI_none (x := x) (ts := ts) fun j hj => hall j (by omega))
      replace hb := Lib.hid hb
      clear hall
      go_wp2_with fail
      go_ret
      exact ⟨by rw [hnone.out]; rfl, hb.out⟩
set_option maxRecDepth 20000 in
set_option maxHeartbeats 2000000 in
theorem l19Met_any (x : Mch) (b : Nat) (A : Option Addr) (n c : Nat) (ts : List Tri) (w : World) (h : MRd w x) (hx : MBox w b x) (hm : memB x.rs x.rows x.bank = true) (ht : Reads w w.heap.size 3 A n (iv (fl3 ts))) (hn : n ≤ 1000000000) (hs : stopsB ts = true) :
    Calls Try.prog 50 #[.pointer (some ⟨b, 0, none⟩), .slice A n c] w fun e w' => e = .returned (.int .i64 (metI x ts)) ∧ Below w.heap.size w w' := by
  have hl := Tri.len ht
  have HX := Lib.hid h
  have BX := Lib.hid hx
  have HT := Lib.hid ht
  clear h hx ht
  go_enter Try.func50, Try.ntmps50
  go_wp2_with fail
  go_loopw [5] (fun i wr => ∃ k : Nat, k ≤ n ∧ i = .int .i64 k ∧ (∀ j, j < k → metP x (ts.getD j (0, 0, 0)) = false) ∧ Below w.heap.size w wr) (fun i _ => n - (intOf i).toNat)
  case atStart => exact ⟨0, Nat.zero_le _, rfl, fun j hj => by omega, Below.refl _ _⟩
  case round =>
    obtain ⟨k, hk, rfl, hall, hb⟩ := hrel
    by_cases hlt : k < n
    · obtain ⟨tb, off, e1, tbl, t0, t1, t2⟩ := Tri.spot (HT.out.below hb) hlt
      subst e1
      obtain ⟨⟨s1, s2⟩, ⟨s3, s4⟩, s5, s6⟩ := stop_at hs (k := k) (by omega)
      have hfound := Lib.hid (fun hp => metI_at (x := x) (ts := ts) (k := k) (by omega) hp hall)
      have hnext := Lib.hid (show metP x (ts.getD k (0, 0, 0)) = false → ∀ j, j < k + 1 → metP x (ts.getD j (0, 0, 0)) = false from fun hp j hj => by rcases Nat.lt_or_ge j k with q | q; exact hall j q; obtain rfl : j = k := (by omega); exact hp)
      obtain ⟨⟨x1, x2, x3⟩, hT⟩ : ∃ t, ts.getD k (0, 0, 0) = t := ⟨_, rfl⟩
      rw [hT] at t0 t1 t2 s1 s2 s3 s4 s5 s6
      simp only at t0 t1 t2 s1 s2 s3 s4 s5 s6
      replace hT := Lib.hid hT
      replace hl := Lib.hid hl
      have q0 : (0 : Int) ≤ (k : Int) := by omega
      have q1 : (k : Int) < (n : Int) := by omega
      have HB := Lib.hid hb
      clear hall hb
      by_cases h1 : x1 = 1
      · subst h1
        have hme : metP x (ts.getD k (0, 0, 0)) = (x.pc == x2) := by rw [hT.out]; unfold metP; simp
        obtain ⟨W2, hW2⟩ : ∃ W2, W2 = wr.alloc (.cells #[.int .i64 1, .int .i64 x2, .int .i64 x3] 74) := ⟨_, rfl⟩
        have k0 : W2.cell? ⟨wr.heap.size, 0, none⟩ = some (.int .i64 1) := by rw [hW2]; exact cell_new _ _ _ 0
        have k1 : W2.cell? ⟨wr.heap.size, 1, none⟩ = some (.int .i64 x2) := by rw [hW2]; exact cell_new _ _ _ 1
        have k2 : W2.cell? ⟨wr.heap.size, 2, none⟩ = some (.int .i64 x3) := by rw [hW2]; exact cell_new _ _ _ 2
        have hz2 : wr.heap.size < W2.heap.size := by rw [hW2]; simp
        have HB2 := Lib.hid (show Below w.heap.size w W2 by rw [hW2]; exact HB.out.alloc HB.out.size _)
        have BX2 := BX.out.below HB2.out
        obtain ⟨ι, hne, G, hall2, hsur⟩ := fam_of W2
        have j0 := fun i => ((hall2 i).cell (p := ⟨wr.heap.size, 0, none⟩) hz2).trans k0
        have j1 := fun i => ((hall2 i).cell (p := ⟨wr.heap.size, 1, none⟩) hz2).trans k1
        have j2 := fun i => ((hall2 i).cell (p := ⟨wr.heap.size, 2, none⟩) hz2).trans k2
        have g0 := fun i => (BX2.below (hall2 i)).m.c0
        have g1 := fun i => (BX2.below (hall2 i)).m.c1
        have g2 := fun i => (BX2.below (hall2 i)).m.c2
        have g3 := fun i => (BX2.below (hall2 i)).c3
        have g4 := fun i => (BX2.below (hall2 i)).c4
        have H2 := Lib.hid hall2
        have HS2 := Lib.hid hsur
        replace hW2 := Lib.hid hW2
        replace hme := Lib.hid hme
        clear BX2 k0 k1 k2
        cases hz : (x.pc == x2)
        · go_wp2_with fail
          rw [← hW2.out]
          clear t0 t1 t2
          refine wp_region_fam G (by kernel_rfl) (by kernel_rfl) (hsur _ (Below.refl _ _).drew) ?_
          repeat (go_big_quiet_step ((go_at_call 73; exact fam_int H2.out HS2.out _ (l2Read_any _ _ _ _ _ _ _ _ _ x2 _ (HX.out.m.below (below_step HB2.out (H2.out _) HB2.out.size)) hm s3 s4) rfl)))
          refine wpQuiet_nil ?_
          rintro _ ⟨nq, rfl⟩
          go_wp2_with fail
          go_roundw
          case rel => exact ⟨k + 1, by omega, by go_num, hnext.out (hme.out.trans hz), below_step HB2.out (H2.out nq) HB2.out.size⟩
          case measure => simp [intOf]; omega
        · go_wp2_with fail
          rw [← hW2.out]
          clear t0 t1 t2
          refine wp_region_fam G (by kernel_rfl) (by kernel_rfl) (hsur _ (Below.refl _ _).drew) ?_
          repeat (go_big_quiet_step ((go_at_call 73; exact fam_int H2.out HS2.out _ (l2Read_any _ _ _ _ _ _ _ _ _ x2 _ (HX.out.m.below (below_step HB2.out (H2.out _) HB2.out.size)) hm s3 s4) rfl)))
          refine wpQuiet_nil ?_
          rintro _ ⟨nq, rfl⟩
          go_wp2_with fail
          go_ret
          exact ⟨by rw [hfound.out (hme.out.trans hz)]; rfl, below_step HB2.out (H2.out nq) HB2.out.size⟩
      by_cases h2 : x1 = 2
      · subst h2
        have hme : metP x (ts.getD k (0, 0, 0)) = (x.a == x3) := by rw [hT.out]; unfold metP; simp
        obtain ⟨W2, hW2⟩ : ∃ W2, W2 = wr.alloc (.cells #[.int .i64 2, .int .i64 x2, .int .i64 x3] 74) := ⟨_, rfl⟩
        have k0 : W2.cell? ⟨wr.heap.size, 0, none⟩ = some (.int .i64 2) := by rw [hW2]; exact cell_new _ _ _ 0
        have k1 : W2.cell? ⟨wr.heap.size, 1, none⟩ = some (.int .i64 x2) := by rw [hW2]; exact cell_new _ _ _ 1
        have k2 : W2.cell? ⟨wr.heap.size, 2, none⟩ = some (.int .i64 x3) := by rw [hW2]; exact cell_new _ _ _ 2
        have hz2 : wr.heap.size < W2.heap.size := by rw [hW2]; simp
        have HB2 := Lib.hid (show Below w.heap.size w W2 by rw [hW2]; exact HB.out.alloc HB.out.size _)
        have BX2 := BX.out.below HB2.out
        obtain ⟨ι, hne, G, hall2, hsur⟩ := fam_of W2
        have j0 := fun i => ((hall2 i).cell (p := ⟨wr.heap.size, 0, none⟩) hz2).trans k0
        have j1 := fun i => ((hall2 i).cell (p := ⟨wr.heap.size, 1, none⟩) hz2).trans k1
        have j2 := fun i => ((hall2 i).cell (p := ⟨wr.heap.size, 2, none⟩) hz2).trans k2
        have g0 := fun i => (BX2.below (hall2 i)).m.c0
        have g1 := fun i => (BX2.below (hall2 i)).m.c1
        have g2 := fun i => (BX2.below (hall2 i)).m.c2
        have g3 := fun i => (BX2.below (hall2 i)).c3
        have g4 := fun i => (BX2.below (hall2 i)).c4
        have H2 := Lib.hid hall2
        have HS2 := Lib.hid hsur
        replace hW2 := Lib.hid hW2
        replace hme := Lib.hid hme
        clear BX2 k0 k1 k2
        cases hz : (x.a == x3)
        · go_wp2_with fail
          rw [← hW2.out]
          clear t0 t1 t2
          refine wp_region_fam G (by kernel_rfl) (by kernel_rfl) (hsur _ (Below.refl _ _).drew) ?_
          repeat (go_big_quiet_step ((go_at_call 73; exact fam_int H2.out HS2.out _ (l2Read_any _ _ _ _ _ _ _ _ _ x2 _ (HX.out.m.below (below_step HB2.out (H2.out _) HB2.out.size)) hm s3 s4) rfl)))
          refine wpQuiet_nil ?_
          rintro _ ⟨nq, rfl⟩
          go_wp2_with fail
          go_roundw
          case rel => exact ⟨k + 1, by omega, by go_num, hnext.out (hme.out.trans hz), below_step HB2.out (H2.out nq) HB2.out.size⟩
          case measure => simp [intOf]; omega
        · go_wp2_with fail
          rw [← hW2.out]
          clear t0 t1 t2
          refine wp_region_fam G (by kernel_rfl) (by kernel_rfl) (hsur _ (Below.refl _ _).drew) ?_
          repeat (go_big_quiet_step ((go_at_call 73; exact fam_int H2.out HS2.out _ (l2Read_any _ _ _ _ _ _ _ _ _ x2 _ (HX.out.m.below (below_step HB2.out (H2.out _) HB2.out.size)) hm s3 s4) rfl)))
          refine wpQuiet_nil ?_
          rintro _ ⟨nq, rfl⟩
          go_wp2_with fail
          go_ret
          exact ⟨by rw [hfound.out (hme.out.trans hz)]; rfl, below_step HB2.out (H2.out nq) HB2.out.size⟩
      · obtain rfl : x1 = 3 := by omega
        have hme : metP x (ts.getD k (0, 0, 0)) = (pk x.rs x.rows x.bank x2 == x3) := by rw [hT.out]; unfold metP; simp
        obtain ⟨W2, hW2⟩ : ∃ W2, W2 = wr.alloc (.cells #[.int .i64 3, .int .i64 x2, .int .i64 x3] 74) := ⟨_, rfl⟩
        have k0 : W2.cell? ⟨wr.heap.size, 0, none⟩ = some (.int .i64 3) := by rw [hW2]; exact cell_new _ _ _ 0
        have k1 : W2.cell? ⟨wr.heap.size, 1, none⟩ = some (.int .i64 x2) := by rw [hW2]; exact cell_new _ _ _ 1
        have k2 : W2.cell? ⟨wr.heap.size, 2, none⟩ = some (.int .i64 x3) := by rw [hW2]; exact cell_new _ _ _ 2
        have hz2 : wr.heap.size < W2.heap.size := by rw [hW2]; simp
        have HB2 := Lib.hid (show Below w.heap.size w W2 by rw [hW2]; exact HB.out.alloc HB.out.size _)
        have BX2 := BX.out.below HB2.out
        obtain ⟨ι, hne, G, hall2, hsur⟩ := fam_of W2
        have j0 := fun i => ((hall2 i).cell (p := ⟨wr.heap.size, 0, none⟩) hz2).trans k0
        have j1 := fun i => ((hall2 i).cell (p := ⟨wr.heap.size, 1, none⟩) hz2).trans k1
        have j2 := fun i => ((hall2 i).cell (p := ⟨wr.heap.size, 2, none⟩) hz2).trans k2
        have g0 := fun i => (BX2.below (hall2 i)).m.c0
        have g1 := fun i => (BX2.below (hall2 i)).m.c1
        have g2 := fun i => (BX2.below (hall2 i)).m.c2
        have g3 := fun i => (BX2.below (hall2 i)).c3
        have g4 := fun i => (BX2.below (hall2 i)).c4
        have H2 := Lib.hid hall2
        have HS2 := Lib.hid hsur
        replace hW2 := Lib.hid hW2
        replace hme := Lib.hid hme
        clear BX2 k0 k1 k2
        cases hz : (pk x.rs x.rows x.bank x2 == x3)
        · go_wp2_with fail
          rw [← hW2.out]
          clear t0 t1 t2
          refine wp_region_fam G (by kernel_rfl) (by kernel_rfl) (hsur _ (Below.refl _ _).drew) ?_
          repeat (go_big_quiet_step ((go_at_call 73; exact fam_int H2.out HS2.out _ (l2Read_any _ _ _ _ _ _ _ _ _ x2 _ (HX.out.m.below (below_step HB2.out (H2.out _) HB2.out.size)) hm s3 s4) rfl)))
          refine wpQuiet_nil ?_
          rintro _ ⟨nq, rfl⟩
          go_wp2_with fail
          go_roundw
          case rel => exact ⟨k + 1, by omega, by go_num, hnext.out (hme.out.trans hz), below_step HB2.out (H2.out nq) HB2.out.size⟩
          case measure => simp [intOf]; omega
        · go_wp2_with fail
          rw [← hW2.out]
          clear t0 t1 t2
          refine wp_region_fam G (by kernel_rfl) (by kernel_rfl) (hsur _ (Below.refl _ _).drew) ?_
          repeat (go_big_quiet_step ((go_at_call 73; exact fam_int H2.out HS2.out _ (l2Read_any _ _ _ _ _ _ _ _ _ x2 _ (HX.out.m.below (below_step HB2.out (H2.out _) HB2.out.size)) hm s3 s4) rfl)))
          refine wpQuiet_nil ?_
          rintro _ ⟨nq, rfl⟩
          go_wp2_with fail
          go_ret
          exact ⟨by rw [hfound.out (hme.out.trans hz)]; rfl, below_step HB2.out (H2.out nq) HB2.out.size⟩
    · obtain rfl : k = n := by omega
      have hnone := Lib.hid (metI_none (x := x) (ts := ts) fun j hj => hall j (by omega))
      replace hb := Lib.hid hb
      clear hall
      go_wp2_with fail
      go_ret
      exact ⟨by rw [hnone.out]; rfl, hb.out⟩
def metR (x : Mch) (ts : List Tri) : Int := if machB x && stopsB ts then metI x ts else -1
theorem machB_mem {x : Mch} (h : machB x = true) : memB x.rs x.rows x.bank = true := by
  unfold machB formB at h
  simp only [Bool.and_eq_true] at h
  exact h.1.1
set_option maxRecDepth 4000 in
set_option maxHeartbeats 1000000 in
theorem metStop_impl (x : Mch) (A : Option Addr) (n c : Nat) (ts : List Tri) (w : World) (h : MRd w x) (ht : Reads w w.heap.size 3 A n (iv (fl3 ts))) (hn : n ≤ 1000000000) :
    Calls Try.prog 22 #[x.val, .slice A n c] w fun e w' => e = .returned (.int .i64 (metR x ts)) ∧ Below w.heap.size w w' := by
  have hb0 : Below w.heap.size w (w.alloc (.cells x.cs 28)) := (Below.refl _ _).alloc (Nat.le_refl _) _
  have BX := Lib.hid (MBox.new w x 28)
  have HX := Lib.hid (h.below hb0)
  have HT := Lib.hid ((ht.below hb0).more hb0.size)
  have HB0 := Lib.hid hb0
  clear h hb0 ht
  unfold Mch.cs at *
  unfold Mch.val Mch.cs
  cases hmv : machB x
  · rw [show metR x ts = -1 by unfold metR; rw [hmv]; rfl]
    go_enter Try.func22, Try.ntmps22
    go_wp2_with (go_at_call 29; refine (machineValid_impl x _ HX.out).mono ?_; rintro e w5 ⟨rfl, b5⟩; rw [hmv]; replace b5 := Lib.hid b5)
    go_ret
    exact ⟨rfl, below_step HB0.out b5.out HB0.out.size⟩
  cases hst : stopsB ts
  · rw [show metR x ts = -1 by unfold metR; rw [hst, Bool.and_false]; rfl]
    go_enter Try.func22, Try.ntmps22
    go_wp2_with (first | (go_at_call 29; refine (machineValid_impl x _ HX.out).mono ?_; rintro e w5 ⟨rfl, b5⟩; rw [hmv]; replace b5 := Lib.hid b5) | (go_at_call 48; refine (stopsValid_impl A n c ts _ ((HT.out.below b5.out).more b5.out.size) hn).mono ?_; rintro e w6 ⟨rfl, b6⟩; rw [hst]; replace b6 := Lib.hid b6))
    go_ret
    exact ⟨rfl, below_step HB0.out (below_step b5.out b6.out b5.out.size) HB0.out.size⟩
  · rw [show metR x ts = metI x ts by unfold metR; rw [hmv, hst]; rfl]
    have HM := Lib.hid (machB_mem hmv)
    have HST := Lib.hid hst
    go_enter Try.func22, Try.ntmps22
    go_wp2_with (first | (go_at_call 29; refine (machineValid_impl x _ HX.out).mono ?_; rintro e w5 ⟨rfl, b5⟩; rw [hmv]; replace b5 := Lib.hid b5) | (go_at_call 48; refine (stopsValid_impl A n c ts _ ((HT.out.below b5.out).more b5.out.size) hn).mono ?_; rintro e w6 ⟨rfl, b6⟩; rw [hst]; have B6 := Lib.hid (below_step b5.out b6 b5.out.size); clear b6))
    refine (metStop_any x w.heap.size A n c ts _ (HX.out.below B6.out) (BX.out.below B6.out) HM.out ((HT.out.below B6.out).more B6.out.size) hn HST.out).mono ?_
    rintro e w7 ⟨rfl, b7⟩
    replace b7 := Lib.hid b7
    go_wp2_with fail
    go_ret
    exact ⟨rfl, below_step HB0.out (below_step B6.out b7.out B6.out.size) HB0.out.size⟩
set_option maxRecDepth 4000 in
set_option maxHeartbeats 1000000 in
theorem metStop_spec (x : Mch) (A : Option Addr) (n c : Nat) (ts : List Tri) (w : World) (h : MRd w x) (ht : Reads w w.heap.size 3 A n (iv (fl3 ts))) (hn : n ≤ 1000000000) :
    Calls Try.prog 23 #[x.val, .slice A n c] w fun e w' => e = .returned (.int .i64 (metR x ts)) ∧ Below w.heap.size w w' := by
  have hb0 : Below w.heap.size w (w.alloc (.cells x.cs 28)) := (Below.refl _ _).alloc (Nat.le_refl _) _
  have BX := Lib.hid (MBox.new w x 28)
  have HX := Lib.hid (h.below hb0)
  have HT := Lib.hid ((ht.below hb0).more hb0.size)
  have HB0 := Lib.hid hb0
  clear h hb0 ht
  unfold Mch.cs at *
  unfold Mch.val Mch.cs
  cases hmv : machB x
  · rw [show metR x ts = -1 by unfold metR; rw [hmv]; rfl]
    go_enter Try.func23, Try.ntmps23
    go_wp2_with (go_at_call 11; refine (machineValid_spec x _ HX.out).mono ?_; rintro e w5 ⟨rfl, b5⟩; rw [hmv]; replace b5 := Lib.hid b5)
    go_ret
    exact ⟨rfl, below_step HB0.out b5.out HB0.out.size⟩
  cases hst : stopsB ts
  · rw [show metR x ts = -1 by unfold metR; rw [hst, Bool.and_false]; rfl]
    go_enter Try.func23, Try.ntmps23
    go_wp2_with (first | (go_at_call 11; refine (machineValid_spec x _ HX.out).mono ?_; rintro e w5 ⟨rfl, b5⟩; rw [hmv]; replace b5 := Lib.hid b5) | (go_at_call 24; refine (stopsValid_spec A n c ts _ ((HT.out.below b5.out).more b5.out.size) hn).mono ?_; rintro e w6 ⟨rfl, b6⟩; rw [hst]; replace b6 := Lib.hid b6))
    go_ret
    exact ⟨rfl, below_step HB0.out (below_step b5.out b6.out b5.out.size) HB0.out.size⟩
  · rw [show metR x ts = metI x ts by unfold metR; rw [hmv, hst]; rfl]
    have HM := Lib.hid (machB_mem hmv)
    have HST := Lib.hid hst
    go_enter Try.func23, Try.ntmps23
    go_wp2_with (first | (go_at_call 11; refine (machineValid_spec x _ HX.out).mono ?_; rintro e w5 ⟨rfl, b5⟩; rw [hmv]; replace b5 := Lib.hid b5) | (go_at_call 24; refine (stopsValid_spec A n c ts _ ((HT.out.below b5.out).more b5.out.size) hn).mono ?_; rintro e w6 ⟨rfl, b6⟩; rw [hst]; have B6 := Lib.hid (below_step b5.out b6 b5.out.size); clear b6))
    refine (l19Met_any x w.heap.size A n c ts _ (HX.out.below B6.out) (BX.out.below B6.out) HM.out ((HT.out.below B6.out).more B6.out.size) hn HST.out).mono ?_
    rintro e w7 ⟨rfl, b7⟩
    replace b7 := Lib.hid b7
    go_wp2_with fail
    go_ret
    exact ⟨rfl, below_step HB0.out (below_step B6.out b7.out B6.out.size) HB0.out.size⟩
end Go.Proofs.Ytgedfcccflobmaa
