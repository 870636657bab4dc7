/-
  PlayVoice in both packages, l14Level, l14Next; samples in plain words. No condition.
-/
import Derived.Test.YtmenehgbhgehjaaSkip
import Derived.Test.YtmenehgbhgehjaaGrow
namespace Go.Proofs.Ytmenehgbhgehjaa
open Go.RowKit
set_option linter.unusedVariables false
set_option linter.unusedSimpArgs false
def nextV (v : Vo) : Vo := if v.f = 1 then ⟨v.l, v.h, v.a, (v.s + 1) % 8, v.l⟩ else ⟨v.l, v.h, v.a, v.s, v.f - 1⟩
def levV (v : Vo) : Int := if v.s < v.h then v.a else 0
def iterV : Nat → Vo → Vo
  | 0, v => v
  | n + 1, v => iterV n (nextV v)
def sampV : Nat → Vo → List Int
  | 0, _ => []
  | n + 1, v => levV v :: sampV n (nextV v)
theorem sampV_len : ∀ (n : Nat) (v : Vo), (sampV n v).length = n
  | 0, _ => rfl
  | n + 1, v => by simp [sampV, sampV_len n]
theorem iterV_add : ∀ (m n : Nat) (v : Vo), iterV (m + n) v = iterV n (iterV m v)
  | 0, n, v => by rw [Nat.zero_add]; rfl
  | m + 1, n, v => by rw [show m + 1 + n = (m + n) + 1 by omega]; exact iterV_add m n (nextV v)
theorem sampV_add : ∀ (m n : Nat) (v : Vo), sampV (m + n) v = sampV m v ++ sampV n (iterV m v)
  | 0, n, v => by rw [Nat.zero_add]; rfl
  | m + 1, n, v => by
    rw [show m + 1 + n = (m + n) + 1 by omega]
    simp only [sampV, iterV, List.cons_append, sampV_add m n (nextV v)]
theorem iterV_succ (n : Nat) (v : Vo) : iterV (n + 1) v = nextV (iterV n v) := iterV_add n 1 v
theorem sampV_succ (n : Nat) (v : Vo) : sampV (n + 1) v = sampV n v ++ [levV (iterV n v)] := sampV_add n 1 v
theorem vvB_of {v : Vo} (h : (1 ≤ v.l ∧ v.l ≤ 100) ∧ (0 ≤ v.h ∧ v.h ≤ 8) ∧ (0 ≤ v.a ∧ v.a ≤ 15) ∧ (0 ≤ v.s ∧ v.s ≤ 7) ∧ 1 ≤ v.f ∧ v.f ≤ v.l) : vvB v = true := by
  simp only [vvB, Bool.and_eq_true, inB_iff]
  exact h
theorem next_valid {v : Vo} (hv : vvB v = true) : vvB (nextV v) = true := by
  obtain ⟨h1, h2, h3, h4, h5⟩ := vvB_bd hv
  unfold nextV
  split
  · exact vvB_of ⟨h1, h2, h3, by simp only; omega, by simp only; omega⟩
  · exact vvB_of ⟨h1, h2, h3, h4, by simp only; omega⟩
theorem iter_valid : ∀ (n : Nat) {v : Vo}, vvB v = true → vvB (iterV n v) = true
  | 0, _, h => h
  | n + 1, _, h => iter_valid n (next_valid h)
theorem skip_next {v : Vo} (hv : vvB v = true) (n : Int) (h0 : 0 ≤ n) : skipV (nextV v) n = skipV v (n + 1) := by
  obtain ⟨⟨l1, l2⟩, -, -, ⟨s1, s2⟩, f1, f2⟩ := vvB_bd hv
  unfold nextV
  split
  · rename_i hf
    unfold skipV
    simp only
    rw [show v.l - v.l + n = n by omega, show v.l - v.f + (n + 1) = n + v.l by omega, Int.add_ediv_of_dvd_right (Int.dvd_refl _), Int.ediv_self (by omega), Int.add_emod_right]
    congr 1
    omega
  · unfold skipV
    simp only
    rw [show v.l - (v.f - 1) + n = v.l - v.f + (n + 1) by omega]
theorem skip_iter : ∀ (n : Nat) {v : Vo}, vvB v = true → skipV v (n : Int) = iterV n v
  | 0, v, h => by
    obtain ⟨-, -, -, -, f1, f2⟩ := vvB_bd h
    rw [skip_lt h (by omega) (by omega)]
    simp [iterV]
  | n + 1, v, h => by
    rw [show ((n + 1 : Nat) : Int) = (n : Int) + 1 by omega, ← skip_next h n (by omega), skip_iter n (next_valid h)]
    rfl
theorem samp_run : ∀ (n : Nat) {v : Vo}, vvB v = true → (n : Int) ≤ v.f → sampV n v = List.replicate n (levV v)
  | 0, v, _, _ => rfl
  | 1, v, _, _ => rfl
  | n + 2, v, h, hn => by
    obtain ⟨-, -, -, -, f1, f2⟩ := vvB_bd h
    have hf : v.f ≠ 1 := by omega
    have e : nextV v = ⟨v.l, v.h, v.a, v.s, v.f - 1⟩ := by unfold nextV; rw [if_neg hf]
    rw [sampV, List.replicate_succ, samp_run (n + 1) (next_valid h) (by rw [e]; simp only; omega), e]
    rfl
theorem lev_bd {v : Vo} (h : vvB v = true) : 0 ≤ levV v ∧ levV v ≤ 15 ∧ (levV v = 0 ∨ levV v = v.a) := by
  obtain ⟨-, -, h3, -⟩ := vvB_bd h
  unfold levV
  split
  · exact ⟨h3.1, h3.2, .inr rfl⟩
  · exact ⟨by omega, by omega, .inl rfl⟩
def playB (v : Vo) (n : Int) : Bool := vvB v && inB n 0 400
def playL (v : Vo) (n : Int) : List Int := if playB v n then sampV n.toNat v else []
def playV (v : Vo) (n : Int) : Vo := if playB v n then iterV n.toNat v else ⟨0, 0, 0, 0, 0⟩
theorem play_bad {v : Vo} {n : Int} (h : playB v n = false) : playL v n = [] ∧ playV v n = ⟨0, 0, 0, 0, 0⟩ := by simp [playL, playV, h]
theorem play_good {v : Vo} {N : Nat} (h : playB v N = true) : playL v N = sampV N v ∧ playV v N = iterV N v := by simp [playL, playV, h]
theorem playL_len (v : Vo) (n : Int) : (playL v n).length ≤ 400 := by
  cases h : playB v n
  · rw [(play_bad h).1]; simp
  · simp only [playB, Bool.and_eq_true, inB_iff] at h
    obtain ⟨N, rfl⟩ := Int.eq_ofNat_of_zero_le h.2.1
    rw [(play_good (by simp [playB, h.1, inB_iff]; omega)).1, sampV_len]
    omega
/-- A box of its own that holds a channel. -/
def HasV (w : World) (b : Nat) (v : Vo) : Prop := w.ownsRow b 24 5 (.slice (some ⟨b, 0, none⟩) 1 1) 1 [.int .i64 v.l, .int .i64 v.h, .int .i64 v.a, .int .i64 v.s, .int .i64 v.f]
theorem HasV.new (w : World) (v : Vo) : HasV (w.alloc (.cells #[.int .i64 v.l, .int .i64 v.h, .int .i64 v.a, .int .i64 v.s, .int .i64 v.f] 24)) w.heap.size v :=
  World.ownsRow_lit w #[.int .i64 v.l, .int .i64 v.h, .int .i64 v.a, .int .i64 v.s, .int .i64 v.f] 1 (Nat.le_refl _) (by simp [maxLen]) rfl
theorem HasV.alloc {w : World} {b : Nat} {v : Vo} (h : HasV w b v) (o : Obj) : HasV (w.alloc o) b v := World.ownsRow.alloc h o
theorem HasV.lt {w : World} {b : Nat} {v : Vo} (h : HasV w b v) : b < w.heap.size := (World.ownsRow.lt h b rfl).2
theorem HasV.below {w w' : World} {b : Nat} {v : Vo} (h : HasV w b v) (hb : Below w.heap.size w w') : HasV w' b v := own_below h hb
theorem HasV.kept {w w' : World} {b : Nat} {v : Vo} {row : Option Nat} (h : HasV w b v) (hg : w.grownBy w' row) (hne : row ≠ some b) : HasV w' b v :=
  World.ownsRow.kept h hg (.inr (fun e => hne e.symm))
theorem HasV.cells {w : World} {b : Nat} {v : Vo} (h : HasV w b v) : w.cell? ⟨b, 0, none⟩ = some (.int .i64 v.l) ∧ w.cell? ⟨b, 1, none⟩ = some (.int .i64 v.h) ∧ w.cell? ⟨b, 2, none⟩ = some (.int .i64 v.a) ∧ w.cell? ⟨b, 3, none⟩ = some (.int .i64 v.s) ∧ w.cell? ⟨b, 4, none⟩ = some (.int .i64 v.f) :=
  ⟨World.ownsRow.cellAt h 0 (by simp), World.ownsRow.cellAt h 1 (by simp), World.ownsRow.cellAt h 2 (by simp), World.ownsRow.cellAt h 3 (by simp), World.ownsRow.cellAt h 4 (by simp)⟩
theorem HasV.froz {w : World} {b : Nat} {v : Vo} (h : HasV w b v) : w.frozen? ⟨b, 0, none⟩ = false ∧ w.frozen? ⟨b, 1, none⟩ = false ∧ w.frozen? ⟨b, 2, none⟩ = false ∧ w.frozen? ⟨b, 3, none⟩ = false ∧ w.frozen? ⟨b, 4, none⟩ = false :=
  ⟨World.ownsRow.frozenAt h 0, World.ownsRow.frozenAt h 1, World.ownsRow.frozenAt h 2, World.ownsRow.frozenAt h 3, World.ownsRow.frozenAt h 4⟩
def setV (w : World) (b : Nat) (u : Vo) : World := ((((w.setCell ⟨b, 0, none⟩ (.int .i64 u.l)).setCell ⟨b, 1, none⟩ (.int .i64 u.h)).setCell ⟨b, 2, none⟩ (.int .i64 u.a)).setCell ⟨b, 3, none⟩ (.int .i64 u.s)).setCell ⟨b, 4, none⟩ (.int .i64 u.f)
theorem HasV.set {w : World} {b : Nat} {v : Vo} (h : HasV w b v) (u : Vo) : HasV (setV w b u) b u ∧ w.grownBy (setV w b u) (some b) := by
  obtain ⟨a0, b0⟩ := World.ownsRow.stored h 0 (.int .i64 u.l)
  obtain ⟨a1, b1⟩ := a0.stored 1 (.int .i64 u.h)
  obtain ⟨a2, b2⟩ := a1.stored 2 (.int .i64 u.a)
  obtain ⟨a3, b3⟩ := a2.stored 3 (.int .i64 u.s)
  obtain ⟨a4, b4⟩ := a3.stored 4 (.int .i64 u.f)
  exact ⟨a4, (((b0.trans b1).trans b2).trans b3).trans b4⟩
/-- Two boxes, made one after the other, behind a call. -/
theorem boxes2 {w w1 : World} {v u : Vo} (hb : Below ((w.alloc (.cells #[.int .i64 v.l, .int .i64 v.h, .int .i64 v.a, .int .i64 v.s, .int .i64 v.f] 24)).alloc (.cells #[.int .i64 u.l, .int .i64 u.h, .int .i64 u.a, .int .i64 u.s, .int .i64 u.f] 24)).heap.size ((w.alloc (.cells #[.int .i64 v.l, .int .i64 v.h, .int .i64 v.a, .int .i64 v.s, .int .i64 v.f] 24)).alloc (.cells #[.int .i64 u.l, .int .i64 u.h, .int .i64 u.a, .int .i64 u.s, .int .i64 u.f] 24)) w1) :
    HasV w1 w.heap.size v ∧ HasV w1 (w.heap.size + 1) u ∧ Below w.heap.size w w1 ∧ w.heap.size + 2 ≤ w1.heap.size := by
  have h1 := (HasV.new w v).alloc (.cells #[.int .i64 u.l, .int .i64 u.h, .int .i64 u.a, .int .i64 u.s, .int .i64 u.f] 24)
  have h2 := HasV.new (w.alloc (.cells #[.int .i64 v.l, .int .i64 v.h, .int .i64 v.a, .int .i64 v.s, .int .i64 v.f] 24)) u
  rw [World.size_alloc] at h2
  have hs := hb.size
  simp only [World.size_alloc] at hs
  exact ⟨h1.below hb, h2.below hb, below_step (((Below.refl _ _).alloc (Nat.le_refl _) _).alloc (by simp) _) hb (by simp; omega), by omega⟩
/-- Two boxes and an empty list behind them, behind a call. -/
theorem boxes2e {w w1 : World} {v u : Vo} {E : TypeId} (hb : Below (((w.alloc (.cells #[.int .i64 v.l, .int .i64 v.h, .int .i64 v.a, .int .i64 v.s, .int .i64 v.f] 24)).alloc (.cells #[.int .i64 u.l, .int .i64 u.h, .int .i64 u.a, .int .i64 u.s, .int .i64 u.f] 24)).alloc (.cells #[] E)).heap.size (((w.alloc (.cells #[.int .i64 v.l, .int .i64 v.h, .int .i64 v.a, .int .i64 v.s, .int .i64 v.f] 24)).alloc (.cells #[.int .i64 u.l, .int .i64 u.h, .int .i64 u.a, .int .i64 u.s, .int .i64 u.f] 24)).alloc (.cells #[] E)) w1) :
    HasV w1 w.heap.size v ∧ HasV w1 (w.heap.size + 1) u ∧ w1.ownsRow (w.heap.size + 2) E 1 (.slice (some ⟨w.heap.size + 1 + 1, 0, none⟩) 0 0) 0 (iv []) ∧ Below w.heap.size w w1 ∧ w.heap.size + 3 ≤ w1.heap.size := by
  have h1 := ((HasV.new w v).alloc (.cells #[.int .i64 u.l, .int .i64 u.h, .int .i64 u.a, .int .i64 u.s, .int .i64 u.f] 24)).alloc (.cells #[] E)
  have h2 := (HasV.new (w.alloc (.cells #[.int .i64 v.l, .int .i64 v.h, .int .i64 v.a, .int .i64 v.s, .int .i64 v.f] 24)) u).alloc (.cells #[] E)
  rw [World.size_alloc] at h2
  have h3 : (((w.alloc (.cells #[.int .i64 v.l, .int .i64 v.h, .int .i64 v.a, .int .i64 v.s, .int .i64 v.f] 24)).alloc (.cells #[.int .i64 u.l, .int .i64 u.h, .int .i64 u.a, .int .i64 u.s, .int .i64 u.f] 24)).alloc (.cells #[] E)).ownsRow (w.heap.size + 2) E 1 (.slice (some ⟨((w.alloc (.cells #[.int .i64 v.l, .int .i64 v.h, .int .i64 v.a, .int .i64 v.s, .int .i64 v.f] 24)).alloc (.cells #[.int .i64 u.l, .int .i64 u.h, .int .i64 u.a, .int .i64 u.s, .int .i64 u.f] 24)).heap.size, 0, none⟩) 0 0) 0 (iv []) := World.ownsRow_lit _ #[] 0 (by simp) (by simp [maxLen]) rfl
  simp only [World.size_alloc] at h3
  have hs := hb.size
  simp only [World.size_alloc] at hs
  exact ⟨h1.below hb, h2.below hb, own_below h3 hb, below_step ((((Below.refl _ _).alloc (Nat.le_refl _) _).alloc (by simp) _).alloc (by simp; omega) _) hb (by simp; omega), by omega⟩
/-- What PlayVoice gives. -/
def GivesP (w : World) (xs : List Int) (v : Vo) (e : Ending) (w' : World) : Prop := ∃ A c, e = .returned (.tuple #[.slice A xs.length c, v.val]) ∧ w'.ownsRow w.heap.size 3 1 (.slice A xs.length c) xs.length (iv xs) ∧ Below w.heap.size w w'
theorem level_any (v : Vo) (w : World) : Calls Try.prog 60 #[v.val] w fun e w' => e = .returned (.int .i64 (levV v)) ∧ Below w.heap.size w w' := by
  by_cases hl : v.s < v.h
  · rw [show levV v = v.a from if_pos hl]
    go_enter Try.func60, Try.ntmps60
    go_wp2
    go_ret
    exact ⟨rfl, by go_grown⟩
  · rw [show levV v = 0 from if_neg hl]
    go_enter Try.func60, Try.ntmps60
    go_wp2
    go_ret
    exact ⟨rfl, by go_grown⟩
set_option maxHeartbeats 1000000 in
theorem next_any (v : Vo) (w : World) (hv : vvB v = true) : Calls Try.prog 61 #[v.val] w fun e w' => e = .returned (nextV v).val ∧ Below w.heap.size w w' := by
  obtain ⟨⟨l1, l2⟩, -, -, ⟨s1, s2⟩, f1, f2⟩ := vvB_bd hv
  clear hv
  by_cases hf : v.f = 1
  · have q1 : v.f - 1 = 0 := by omega
    have m1 : 0 ≤ (v.s + 1) % 8 := by omega
    rw [show nextV v = ⟨v.l, v.h, v.a, (v.s + 1) % 8, v.l⟩ from if_pos hf]
    go_enter Try.func61, Try.ntmps61
    go_wp2
    refine bodyPost_ret (v := (⟨v.l, v.h, v.a, (v.s + 1) % 8, v.l⟩ : Vo).val) (by simp [results, Try.results61, go_sem]) rfl ⟨rfl, ?_⟩
    go_grown
  · have q1 : ¬ (v.f - 1 = 0) := by omega
    rw [show nextV v = ⟨v.l, v.h, v.a, v.s, v.f - 1⟩ from if_neg hf]
    go_enter Try.func61, Try.ntmps61
    go_wp2
    refine bodyPost_ret (v := (⟨v.l, v.h, v.a, v.s, v.f - 1⟩ : Vo).val) (by simp [results, Try.results61, go_sem]) rfl ⟨rfl, ?_⟩
    go_grown
set_option maxHeartbeats 2000000 in
theorem playVoice_spec (v : Vo) (n : Int) (w : World) : Calls Try.prog 22 #[v.val, .int .i64 n] w (GivesP w (playL v n) (playV v n)) := by
  cases hv : vvB v
  · rw [(play_bad (show playB v n = false by simp [playB, hv])).1, (play_bad (show playB v n = false by simp [playB, hv])).2]
    go_enter Try.func22, Try.ntmps22
    go_wp2_with (first | (go_at_call 18; refine (voiceValid_spec _ _).mono ?_; rintro e w1 ⟨rfl, hb1⟩; obtain ⟨hV, hZ, hO, hB, hz⟩ := boxes2e (u := (⟨0, 0, 0, 0, 0⟩ : Vo)) hb1; replace hV := Lib.hid hV; replace hZ := Lib.hid hZ; replace hO := Lib.hid hO; replace hB := Lib.hid hB; clear hb1; obtain ⟨y0, y1, y2, y3, y4⟩ := hZ.out.cells; obtain ⟨g0, g1, g2, g3, g4⟩ := hZ.out.froz) | (go_at_call 58; refine (l1In_any _ _ _ _).mono ?_; rintro e w' ⟨rfl, rfl⟩))
    obtain ⟨o1, o2⟩ := hZ.out.set ⟨0, 0, 0, 0, 0⟩
    refine bodyPost_ret (v := .tuple #[.slice (some ⟨w.heap.size + 1 + 1, 0, none⟩) 0 0, (⟨0, 0, 0, 0, 0⟩ : Vo).val]) (by simp [results, Try.results22, go_sem, y0, y1, y2, y3, y4]) rfl ?_
    exact ⟨_, _, rfl, own_base (hO.out.kept o2 (.inr (by simp [Value.ownBlock]))) (by omega), hB.out.grown o2 (by omega) (by intro k hk; injection hk with hk; omega)⟩
  cases hn : inB n 0 400
  · rw [(play_bad (show playB v n = false by simp [playB, hn])).1, (play_bad (show playB v n = false by simp [playB, hn])).2]
    go_enter Try.func22, Try.ntmps22
    go_wp2_with (first | (go_at_call 18; refine (voiceValid_spec _ _).mono ?_; rintro e w1 ⟨rfl, hb1⟩; obtain ⟨hV, hZ, hO, hB, hz⟩ := boxes2e (u := (⟨0, 0, 0, 0, 0⟩ : Vo)) hb1; replace hV := Lib.hid hV; replace hZ := Lib.hid hZ; replace hO := Lib.hid hO; replace hB := Lib.hid hB; clear hb1; obtain ⟨y0, y1, y2, y3, y4⟩ := hZ.out.cells; obtain ⟨g0, g1, g2, g3, g4⟩ := hZ.out.froz) | (go_at_call 58; refine (l1In_any _ _ _ _).mono ?_; rintro e w' ⟨rfl, rfl⟩))
    obtain ⟨o1, o2⟩ := hZ.out.set ⟨0, 0, 0, 0, 0⟩
    refine bodyPost_ret (v := .tuple #[.slice (some ⟨w.heap.size + 1 + 1, 0, none⟩) 0 0, (⟨0, 0, 0, 0, 0⟩ : Vo).val]) (by simp [results, Try.results22, go_sem, y0, y1, y2, y3, y4]) rfl ?_
    exact ⟨_, _, rfl, own_base (hO.out.kept o2 (.inr (by simp [Value.ownBlock]))) (by omega), hB.out.grown o2 (by omega) (by intro k hk; injection hk with hk; omega)⟩
  obtain ⟨N, rfl⟩ := Int.eq_ofNat_of_zero_le (inB_iff.1 hn).1
  have hN : N ≤ 400 := by have := (inB_iff.1 hn).2; omega
  obtain ⟨e1, e2⟩ := play_good (show playB v N = true by simp [playB, hv, hn])
  rw [e1, e2]
  clear e1 e2
  have HVV := Lib.hid hv
  go_enter Try.func22, Try.ntmps22
  go_wp2_with (first | (go_at_call 18; refine (voiceValid_spec _ _).mono ?_; rintro e w1 ⟨rfl, hb1⟩; obtain ⟨hV, hZ, hO, hB, hz⟩ := boxes2e (u := (⟨0, 0, 0, 0, 0⟩ : Vo)) hb1; replace hV := Lib.hid hV; replace hZ := Lib.hid hZ; replace hO := Lib.hid hO; replace hB := Lib.hid hB; clear hb1; obtain ⟨y0, y1, y2, y3, y4⟩ := hZ.out.cells; obtain ⟨g0, g1, g2, g3, g4⟩ := hZ.out.froz) | (go_at_call 58; refine (l1In_any _ _ _ _).mono ?_; rintro e w' ⟨rfl, rfl⟩))
  clear y0 y1 y2 y3 y4 g0 g1 g2 g3 g4
  go_loopw [6, 7] (fun out k wr => ∃ (j : Nat) (A' : Option Addr) (c' : Nat), j ≤ N ∧ out = .slice A' j c' ∧ k = .int .i64 j ∧ wr.ownsRow (w.heap.size + 2) 3 1 (.slice A' j c') j (iv (sampV j v)) ∧ HasV wr w.heap.size (iterV j v) ∧ HasV wr (w.heap.size + 1) ⟨0, 0, 0, 0, 0⟩ ∧ Below w.heap.size w wr) (fun _ k _ => N - (intOf k).toNat)
  case atStart => exact ⟨0, _, _, Nat.zero_le _, rfl, rfl, hO.out, hV.out, hZ.out, hB.out⟩
  case round =>
    obtain ⟨j, A', c', hj, rfl, rfl, hown, hv1, hz1, hb1⟩ := hrel
    obtain ⟨u, hu2⟩ : ∃ u, u = iterV j v := ⟨_, rfl⟩
    have hu := iter_valid j HVV.out
    rw [← hu2] at hv1 hu
    replace hu := Lib.hid hu
    have HO := Lib.hid hown
    have HV := Lib.hid hv1
    have HZ := Lib.hid hz1
    have HB := Lib.hid hb1
    have hsz := hb1.size
    have hvl := hv1.lt
    have hzl := hz1.lt
    obtain ⟨x0, x1, x2, x3, x4⟩ := hv1.cells
    clear hown hv1 hz1 hb1 hV hZ hO hB
    by_cases hlt : j < N
    · have q1 : (j : Int) < (N : Int) := by omega
      have hu3 := Lib.hid hu2
      clear hu2
      go_wp2_with (first | (go_at_call 60; refine (level_any u _).mono ?_; rintro e w2 ⟨rfl, b2⟩; replace HO := Lib.hid (own_below HO.out b2); replace HV := Lib.hid (HV.out.below b2); replace HZ := Lib.hid (HZ.out.below b2); replace HB := Lib.hid (below_step HB.out b2 HB.out.size); clear b2) | (at_builtin; refine push_own_g _ rfl _ _ rfl (w.heap.size + 2) j c' w2.heap.size 1 A' (sampV j v) (levV u) rfl rfl (HO.out.alloc _) (cell_new _ _ _ 0) (by omega) (by have := HZ.out.lt; simp; omega) ?_; intro A3 c3 w3 o3 gr3; rw [hu3.out, ← sampV_succ] at o3; replace HV := Lib.hid ((HV.out.alloc _).kept gr3 (fun e => by have := (HO.out.lt _ e).1; omega)); replace HZ := Lib.hid ((HZ.out.alloc _).kept gr3 (fun e => by have := (HO.out.lt _ e).1; omega)); replace HB := Lib.hid ((HB.out.alloc HB.out.size _).grown gr3 (Nat.le_trans HB.out.size (size_alloc_le _ _)) (fun k hk => by have := (HO.out.lt k hk).1; omega)); replace HO := Lib.hid o3; clear o3 gr3; obtain ⟨k0, k1, k2, k3, k4⟩ := HV.out.cells) | (go_at_call 61; refine (next_any u _ hu.out).mono ?_; rintro e w4 ⟨rfl, b4⟩; replace HO := Lib.hid (own_below HO.out b4); replace HV := Lib.hid (HV.out.below b4); replace HZ := Lib.hid (HZ.out.below b4); replace HB := Lib.hid (below_step HB.out b4 HB.out.size); clear b4; obtain ⟨m0, m1, m2, m3, m4⟩ := HV.out.cells; obtain ⟨g0, g1, g2, g3, g4⟩ := HV.out.froz))
      go_roundw
      case rel =>
        obtain ⟨s1, s2⟩ := HV.out.set (nextV u)
        refine ⟨j + 1, A3, c3, by omega, rfl, by go_num, HO.out.kept s2 (.inr (fun e => by have := (HO.out.lt _ e).1; omega)), ?_, HZ.out.kept s2 (by intro e; injection e with e; omega), HB.out.grown s2 HB.out.size (by intro k hk; injection hk with hk; omega)⟩
        rw [iterV_succ, ← hu3.out]
        exact s1
      case measure => simp [intOf]; omega
    · obtain rfl : j = N := by omega
      obtain ⟨y0, y1, y2, y3, y4⟩ := HZ.out.cells
      obtain ⟨g0, g1, g2, g3, g4⟩ := HZ.out.froz
      rw [← hu2]
      have hu3 := Lib.hid hu2
      clear hu2
      go_wp2
      go_region
      all_goals go_wp2
      all_goals refine bodyPost_ret (v := .tuple #[.slice A' j c', u.val]) (by simp [results, Try.results22, go_sem, y0, y1, y2, y3, y4]) rfl ?_
      obtain ⟨o1, o2⟩ := HZ.out.set u
      refine ⟨A', c', by rw [sampV_len, hu3.out], ?_, (HB.out.grown o2 HB.out.size (by intro k hk; injection hk with hk; omega)).drew⟩
      rw [sampV_len]
      have ho := own_base (b := w.heap.size) (HO.out.kept o2 (.inr (fun e => by have := (HO.out.lt _ e).1; omega))) (by omega)
      exact ho
end Go.Proofs.Ytmenehgbhgehjaa
