/-
  PlayVoice in both packages, l14Level, l14Next; samples in plain words. No condition.
-/
import Derived.Test.YtdhhkdkaigplaaaSkip
import Derived.Test.YtdhhkdkaigplaaaGrow
namespace Go.Proofs.Ytdhhkdkaigplaaa
open Go.RowKit
set_option linter.unusedVariables false
set_option linter.unusedSimpArgs false
def nextV (v : Vo) : Vo := if v.f = 1 then ⟨v.l, v.h, v.a, (v.s + 1) % 8, v.l⟩ else ⟨v.l, v.h, v.a, v.s, v.f - 1⟩
def levV (v : Vo) : Int := if v.s < v.h then v.a else 0
def iterV : Nat → Vo → Vo
  | 0, v => v
  | n + 1, v => iterV n (nextV v)
def sampV : Nat → Vo → List Int
  | 0, _ => []
  | n + 1, v => levV v :: sampV n (nextV v)
theorem sampV_len : ∀ (n : Nat) (v : Vo), (sampV n v).length = n
  | 0, _ => rfl
  | n + 1, v => by simp [sampV, sampV_len n]
theorem iterV_add : ∀ (m n : Nat) (v : Vo), iterV (m + n) v = iterV n (iterV m v)
  | 0, n, v => by rw [Nat.zero_add]; rfl
  | m + 1, n, v => by rw [show m + 1 + n = (m + n) + 1 by omega]; exact iterV_add m n (nextV v)
theorem sampV_add : ∀ (m n : Nat) (v : Vo), sampV (m + n) v = sampV m v ++ sampV n (iterV m v)
  | 0, n, v => by rw [Nat.zero_add]; rfl
  | m + 1, n, v => by
    rw [show m + 1 + n = (m + n) + 1 by omega]
    simp only [sampV, iterV, List.cons_append, sampV_add m n (nextV v)]
theorem iterV_succ (n : Nat) (v : Vo) : iterV (n + 1) v = nextV (iterV n v) := iterV_add n 1 v
theorem sampV_succ (n : Nat) (v : Vo) : sampV (n + 1) v = sampV n v ++ [levV (iterV n v)] := sampV_add n 1 v
theorem vvB_of {v : Vo} (h : (1 ≤ v.l ∧ v.l ≤ 100) ∧ (0 ≤ v.h ∧ v.h ≤ 8) ∧ (0 ≤ v.a ∧ v.a ≤ 15) ∧ (0 ≤ v.s ∧ v.s ≤ 7) ∧ 1 ≤ v.f ∧ v.f ≤ v.l) : vvB v = true := by
  simp only [vvB, Bool.and_eq_true, inB_iff]
  exact h
theorem next_valid {v : Vo} (hv : vvB v = true) : vvB (nextV v) = true := by
  obtain ⟨h1, h2, h3, h4, h5⟩ := vvB_bd hv
  unfold nextV
  split
  · exact vvB_of ⟨h1, h2, h3, by simp only; omega, by simp only; omega⟩
  · exact vvB_of ⟨h1, h2, h3, h4, by simp only; omega⟩
theorem iter_valid : ∀ (n : Nat) {v : Vo}, vvB v = true → vvB (iterV n v) = true
  | 0, _, h => h
  | n + 1, _, h => iter_valid n (next_valid h)
theorem skip_next {v : Vo} (hv : vvB v = true) (n : Int) (h0 : 0 ≤ n) : skipV (nextV v) n = skipV v (n + 1) := by
  obtain ⟨⟨l1, l2⟩, -, -, ⟨s1, s2⟩, f1, f2⟩ := vvB_bd hv
  unfold nextV
  split
  · rename_i hf
    unfold skipV
    simp only
    rw [show v.l - v.l + n = n by omega, show v.l - v.f + (n + 1) = n + v.l by omega, Int.add_ediv_of_dvd_right (Int.dvd_refl _), Int.ediv_self (by omega), Int.add_emod_right]
    congr 1
    omega
  · unfold skipV
    simp only
    rw [show v.l - (v.f - 1) + n = v.l - v.f + (n + 1) by omega]
theorem skip_iter : ∀ (n : Nat) {v : Vo}, vvB v = true → skipV v (n : Int) = iterV n v
  | 0, v, h => by
    obtain ⟨-, -, -, -, f1, f2⟩ := vvB_bd h
    rw [skip_lt h (by omega) (by omega)]
    simp [iterV]
  | n + 1, v, h => by
    rw [show ((n + 1 : Nat) : Int) = (n : Int) + 1 by omega, ← skip_next h n (by omega), skip_iter n (next_valid h)]
    rfl
theorem samp_run : ∀ (n : Nat) {v : Vo}, vvB v = true → (n : Int) ≤ v.f → sampV n v = List.replicate n (levV v)
  | 0, v, _, _ => rfl
  | 1, v, _, _ => rfl
  | n + 2, v, h, hn => by
    obtain ⟨-, -, -, -, f1, f2⟩ := vvB_bd h
    have hf : v.f ≠ 1 := by omega
    have e : nextV v = ⟨v.l, v.h, v.a, v.s, v.f - 1⟩ := by unfold nextV; rw [if_neg hf]
    rw [sampV, List.replicate_succ, samp_run (n + 1) (next_valid h) (by rw [e]; simp only; omega), e]
    rfl
theorem lev_bd {v : Vo} (h : vvB v = true) : 0 ≤ levV v ∧ levV v ≤ 15 ∧ (levV v = 0 ∨ levV v = v.a) := by
  obtain ⟨-, -, h3, -⟩ := vvB_bd h
  unfold levV
  split
  · exact ⟨h3.1, h3.2, .inr rfl⟩
  · exact ⟨by omega, by omega, .inl rfl⟩
def playB (v : Vo) (n : Int) : Bool := vvB v && inB n 0 400
def playL (v : Vo) (n : Int) : List Int := if playB v n then sampV n.toNat v else []
def playV (v : Vo) (n : Int) : Vo := if playB v n then iterV n.toNat v else ⟨0, 0, 0, 0, 0⟩
theorem play_bad {v : Vo} {n : Int} (h : playB v n = false) : playL v n = [] ∧ playV v n = ⟨0, 0, 0, 0, 0⟩ := by simp [playL, playV, h]
theorem play_good {v : Vo} {N : Nat} (h : playB v N = true) : playL v N = sampV N v ∧ playV v N = iterV N v := by simp [playL, playV, h]
theorem playL_len (v : Vo) (n : Int) : (playL v n).length ≤ 400 := by
  cases h : playB v n
  · rw [(play_bad h).1]; simp
  · simp only [playB, Bool.and_eq_true, inB_iff] at h
    obtain ⟨N, rfl⟩ := Int.eq_ofNat_of_zero_le h.2.1
    rw [(play_good (by simp [playB, h.1, inB_iff]; omega)).1, sampV_len]
    omega
/-- A box of its own that holds a channel. -/
def HasV (w : World) (b : Nat) (v : Vo) : Prop := w.ownsRow b 29 5 (.slice (some ⟨b, 0, none⟩) 1 1) 1 [.int .i64 v.l, .int .i64 v.h, .int .i64 v.a, .int .i64 v.s, .int .i64 v.f]
theorem HasV.new (w : World) (v : Vo) : HasV (w.alloc (.cells #[.int .i64 v.l, .int .i64 v.h, .int .i64 v.a, .int .i64 v.s, .int .i64 v.f] 29)) w.heap.size v :=
  World.ownsRow_lit w #[.int .i64 v.l, .int .i64 v.h, .int .i64 v.a, .int .i64 v.s, .int .i64 v.f] 1 (Nat.le_refl _) (by simp [maxLen]) rfl
theorem HasV.alloc {w : World} {b : Nat} {v : Vo} (h : HasV w b v) (o : Obj) : HasV (w.alloc o) b v := World.ownsRow.alloc h o
theorem HasV.lt {w : World} {b : Nat} {v : Vo} (h : HasV w b v) : b < w.heap.size := (World.ownsRow.lt h b rfl).2
theorem HasV.below {w w' : World} {b : Nat} {v : Vo} (h : HasV w b v) (hb : Below w.heap.size w w') : HasV w' b v := own_below h hb
theorem HasV.kept {w w' : World} {b : Nat} {v : Vo} {row : Option Nat} (h : HasV w b v) (hg : w.grownBy w' row) (hne : row ≠ some b) : HasV w' b v :=
  World.ownsRow.kept h hg (.inr (fun e => hne e.symm))
theorem HasV.cells {w : World} {b : Nat} {v : Vo} (h : HasV w b v) : w.cell? ⟨b, 0, none⟩ = some (.int .i64 v.l) ∧ w.cell? ⟨b, 1, none⟩ = some (.int .i64 v.h) ∧ w.cell? ⟨b, 2, none⟩ = some (.int .i64 v.a) ∧ w.cell? ⟨b, 3, none⟩ = some (.int .i64 v.s) ∧ w.cell? ⟨b, 4, none⟩ = some (.int .i64 v.f) :=
  ⟨World.ownsRow.cellAt h 0 (by simp), World.ownsRow.cellAt h 1 (by simp), World.ownsRow.cellAt h 2 (by simp), World.ownsRow.cellAt h 3 (by simp), World.ownsRow.cellAt h 4 (by simp)⟩
theorem HasV.froz {w : World} {b : Nat} {v : Vo} (h : HasV w b v) : w.frozen? ⟨b, 0, none⟩ = false ∧ w.frozen? ⟨b, 1, none⟩ = false ∧ w.frozen? ⟨b, 2, none⟩ = false ∧ w.frozen? ⟨b, 3, none⟩ = false ∧ w.frozen? ⟨b, 4, none⟩ = false :=
  ⟨World.ownsRow.frozenAt h 0, World.ownsRow.frozenAt h 1, World.ownsRow.frozenAt h 2, World.ownsRow.frozenAt h 3, World.ownsRow.frozenAt h 4⟩
def setV (w : World) (b : Nat) (u : Vo) : World := ((((w.setCell ⟨b, 0, none⟩ (.int .i64 u.l)).setCell ⟨b, 1, none⟩ (.int .i64 u.h)).setCell ⟨b, 2, none⟩ (.int .i64 u.a)).setCell ⟨b, 3, none⟩ (.int .i64 u.s)).setCell ⟨b, 4, none⟩ (.int .i64 u.f)
theorem HasV.set {w : World} {b : Nat} {v : Vo} (h : HasV w b v) (u : Vo) : HasV (setV w b u) b u ∧ w.grownBy (setV w b u) (some b) := by
  obtain ⟨a0, b0⟩ := World.ownsRow.stored h 0 (.int .i64 u.l)
  obtain ⟨a1, b1⟩ := a0.stored 1 (.int .i64 u.h)
  obtain ⟨a2, b2⟩ := a1.stored 2 (.int .i64 u.a)
  obtain ⟨a3, b3⟩ := a2.stored 3 (.int .i64 u.s)
  obtain ⟨a4, b4⟩ := a3.stored 4 (.int .i64 u.f)
  exact ⟨a4, (((b0.trans b1).trans b2).trans b3).trans b4⟩
/-- Two boxes, made one after the other, behind a call. -/
theorem boxes2 {w w1 : World} {v u : Vo} (hb : Below ((w.alloc (.cells #[.int .i64 v.l, .int .i64 v.h, .int .i64 v.a, .int .i64 v.s, .int .i64 v.f] 29)).alloc (.cells #[.int .i64 u.l, .int .i64 u.h, .int .i64 u.a, .int .i64 u.s, .int .i64 u.f] 29)).heap.size ((w.alloc (.cells #[.int .i64 v.l, .int .i64 v.h, .int .i64 v.a, .int .i64 v.s, .int .i64 v.f] 29)).alloc (.cells #[.int .i64 u.l, .int .i64 u.h, .int .i64 u.a, .int .i64 u.s, .int .i64 u.f] 29)) w1) :
    HasV w1 w.heap.size v ∧ HasV w1 (w.heap.size + 1) u ∧ Below w.heap.size w w1 ∧ w.heap.size + 2 ≤ w1.heap.size := by
  have h1 := (HasV.new w v).alloc (.cells #[.int .i64 u.l, .int .i64 u.h, .int .i64 u.a, .int .i64 u.s, .int .i64 u.f] 29)
  have h2 := HasV.new (w.alloc (.cells #[.int .i64 v.l, .int .i64 v.h, .int .i64 v.a, .int .i64 v.s, .int .i64 v.f] 29)) u
  rw [World.size_alloc] at h2
  have hs := hb.size
  simp only [World.size_alloc] at hs
  exact ⟨h1.below hb, h2.below hb, below_step (((Below.refl _ _).alloc (Nat.le_refl _) _).alloc (by simp) _) hb (by simp; omega), by omega⟩
/-- Two boxes and an empty list behind them, behind a call. -/
theorem boxes2e {w w1 : World} {v u : Vo} {E : TypeId} (hb : Below (((w.alloc (.cells #[.int .i64 v.l, .int .i64 v.h, .int .i64 v.a, .int .i64 v.s, .int .i64 v.f] 29)).alloc (.cells #[.int .i64 u.l, .int .i64 u.h, .int .i64 u.a, .int .i64 u.s, .int .i64 u.f] 29)).alloc (.cells #[] E)).heap.size (((w.alloc (.cells #[.int .i64 v.l, .int .i64 v.h, .int .i64 v.a, .int .i64 v.s, .int .i64 v.f] 29)).alloc (.cells #[.int .i64 u.l, .int .i64 u.h, .int .i64 u.a, .int .i64 u.s, .int .i64 u.f] 29)).alloc (.cells #[] E)) w1) :
    HasV w1 w.heap.size v ∧ HasV w1 (w.heap.size + 1) u ∧ w1.ownsRow (w.heap.size + 2) E 1 (.slice (some ⟨w.heap.size + 1 + 1, 0, none⟩) 0 0) 0 (iv []) ∧ Below w.heap.size w w1 ∧ w.heap.size + 3 ≤ w1.heap.size := by
  have h1 := ((HasV.new w v).alloc (.cells #[.int .i64 u.l, .int .i64 u.h, .int .i64 u.a, .int .i64 u.s, .int .i64 u.f] 29)).alloc (.cells #[] E)
  have h2 := (HasV.new (w.alloc (.cells #[.int .i64 v.l, .int .i64 v.h, .int .i64 v.a, .int .i64 v.s, .int .i64 v.f] 29)) u).alloc (.cells #[] E)
  rw [World.size_alloc] at h2
  have h3 : (((w.alloc (.cells #[.int .i64 v.l, .int .i64 v.h, .int .i64 v.a, .int .i64 v.s, .int .i64 v.f] 29)).alloc (.cells #[.int .i64 u.l, .int .i64 u.h, .int .i64 u.a, .int .i64 u.s, .int .i64 u.f] 29)).alloc (.cells #[] E)).ownsRow (w.heap.size + 2) E 1 (.slice (some ⟨((w.alloc (.cells #[.int .i64 v.l, .int .i64 v.h, .int .i64 v.a, .int .i64 v.s, .int .i64 v.f] 29)).alloc (.cells #[.int .i64 u.l, .int .i64 u.h, .int .i64 u.a, .int .i64 u.s, .int .i64 u.f] 29)).heap.size, 0, none⟩) 0 0) 0 (iv []) := World.ownsRow_lit _ #[] 0 (by simp) (by simp [maxLen]) rfl
  simp only [World.size_alloc] at h3
  have hs := hb.size
  simp only [World.size_alloc] at hs
  exact ⟨h1.below hb, h2.below hb, own_below h3 hb, below_step ((((Below.refl _ _).alloc (Nat.le_refl _) _).alloc (by simp) _).alloc (by simp; omega) _) hb (by simp; omega), by omega⟩
/-- What PlayVoice gives. -/
def GivesP (w : World) (xs : List Int) (v : Vo) (e : Ending) (w' : World) : Prop := ∃ A c, e = .returned (.tuple #[.slice A xs.length c, v.val]) ∧ w'.ownsRow w.heap.size 3 1 (.slice A xs.length c) xs.length (iv xs) ∧ Below w.heap.size w w'
end Go.Proofs.Ytdhhkdkaigplaaa
