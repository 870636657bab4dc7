/-
  A machine of the call's own, changed in place: its state in memory; one step in plain words. No program is walked here.
-/
import Derived.Test.YtgedfcccflobmaaMacL
import Derived.Test.YtgedfcccflobmaaMet
import Derived.Test.YtgedfcccflobmaaAlu
import Derived.Test.YtgedfcccflobmaaOre
namespace Go.Proofs.Ytgedfcccflobmaa
open Go.RowKit
set_option linter.unusedVariables false
set_option linter.unusedSimpArgs false
/-- A machine without its addresses. -/
structure PM where
  rs : List Int
  rows : List (List Int)
  bank : Int
  a : Int
  pc : Int
  cy : Bool
  bs : List Int
  st : Bool
  cyc : Int
def Mch.pm (x : Mch) : PM := ⟨x.rs, x.rows, x.bank, x.a, x.pc, x.cy, x.bs, x.st, x.cyc⟩
def PM.pk (p : PM) (at_ : Int) : Int := Go.Proofs.Ytgedfcccflobmaa.pk p.rs p.rows p.bank at_
def pokeP (p : PM) (at_ v : Int) : PM := if at_ < 512 then { p with rs := p.rs.set (at_ % 256).toNat v } else if 768 ≤ at_ then { p with bank := v % p.rows.length } else p
/-- Jumps, calls and returns. -/
def goP (p : PM) (op arg : Int) : PM :=
  if op = 10 ∨ (op = 11 ∧ p.a = 0) ∨ (op = 12 ∧ p.cy = true) then { p with pc := arg }
  else if (op = 13 ∧ p.bs.length = 8) ∨ (op = 14 ∧ p.bs.length = 0) ∨ op = 15 then { p with st := true }
  else if op = 13 then { p with bs := p.bs ++ [p.pc], pc := arg }
  else if op = 14 then { p with pc := p.bs.getD (p.bs.length - 1) 0, bs := p.bs.take (p.bs.length - 1) }
  else p
def exeP (p : PM) (op arg : Int) : PM :=
  if op = 1 then { p with a := arg }
  else if op = 2 then { p with a := p.pk arg }
  else if op = 3 then pokeP p arg p.a
  else if op = 4 then { p with a := (p.a + p.pk arg + oneI p.cy) % 256, cy := decide (p.a + p.pk arg + oneI p.cy > 255) }
  else if op = 5 then { p with a := (p.a - p.pk arg - oneI p.cy) % 256, cy := decide (p.a - p.pk arg - oneI p.cy < 0) }
  else if op = 6 then { p with a := bits .and .i64 p.a (p.pk arg) }
  else if op = 7 then { p with a := bits .xor .i64 p.a (p.pk arg) }
  else if op = 8 then { p with a := (2 * p.a + oneI p.cy) % 256, cy := decide (p.a ≥ 128) }
  else if op = 9 then { p with a := p.a / 2 + 128 * oneI p.cy, cy := p.a % 2 == 1 }
  else goP p op arg
def formP (p : PM) : Bool := memB p.rs p.rows p.bank && (inB p.a 0 255 && (inB p.pc 0 1023 && (decide (p.bs.length ≤ 8) && p.bs.all fun z => inB z 0 1023)))
/-- What an instruction reads as: operation, argument, length. -/
def decP (b0 b1 b2 : Int) : Option (Int × Int × Int) :=
  if olen b0 = 1 then some (b0, 0, 1) else if olen b0 = 2 then some (b0, b1, 2) else if olen b0 = 3 ∧ b2 ≤ 3 then some (b0, b1 + 256 * b2, 3) else none
def stepP (p : PM) : PM :=
  if p.st then p else
  match decP (p.pk (p.pc % 1024)) (p.pk ((p.pc + 1) % 1024)) (p.pk ((p.pc + 2) % 1024)) with
  | none => { p with st := true }
  | some (op, arg, n) => exeP { p with pc := (p.pc + n) % 1024, cyc := p.cyc + n } op arg
theorem formP_of {x : Mch} : formP x.pm = formB x := rfl
structure FormP (p : PM) : Prop where
  m : memB p.rs p.rows p.bank = true
  a0 : 0 ≤ p.a
  a1 : p.a ≤ 255
  p0 : 0 ≤ p.pc
  p1 : p.pc ≤ 1023
  b8 : p.bs.length ≤ 8
  bb : (p.bs.all fun z => inB z 0 1023) = true
theorem form_iff {p : PM} : formP p = true ↔ FormP p := by
  unfold formP
  simp only [Bool.and_eq_true, inB_iff, decide_eq_true_eq]
  constructor
  · rintro ⟨h1, ⟨h2, h3⟩, ⟨h4, h5⟩, h6, h7⟩
    exact ⟨h1, h2, h3, h4, h5, h6, h7⟩
  · rintro ⟨h1, h2, h3, h4, h5, h6, h7⟩
    exact ⟨h1, ⟨h2, h3⟩, ⟨h4, h5⟩, h6, h7⟩
theorem FormP.pk {p : PM} (h : FormP p) {z : Int} (h0 : 0 ≤ z) (h1 : z ≤ 1023) : 0 ≤ p.pk z ∧ p.pk z ≤ 255 := pk_in h.m h0 h1
theorem allB_set {xs : List Int} {k : Nat} {v : Int} (h : allB xs = true) (hv : inB v 0 255 = true) : allB (xs.set k v) = true := by
  unfold allB at *
  rw [List.all_eq_true] at *
  intro z hz
  rcases List.mem_or_eq_of_mem_set hz with h1 | h1
  · exact h z h1
  · rw [h1]; exact hv
theorem form_poke {p : PM} (h : FormP p) {at_ v : Int} (v0 : 0 ≤ v) (v1 : v ≤ 255) : FormP (pokeP p at_ v) := by
  unfold pokeP
  obtain ⟨⟨r1, r2⟩, ⟨r3, r4⟩, r5, r6, r7⟩ := mem_facts h.m
  have hm := h.m
  unfold memB at hm
  simp only [Bool.and_eq_true, decide_eq_true_eq, inB_iff] at hm
  obtain ⟨m1, m2, m3, m4⟩ := hm
  split
  · refine ⟨?_, h.a0, h.a1, h.p0, h.p1, h.b8, h.bb⟩
    unfold memB
    simp only [Bool.and_eq_true, decide_eq_true_eq, inB_iff, List.length_set]
    exact ⟨m1, allB_set m2 (inB_iff.2 ⟨v0, v1⟩), m3, m4⟩
  · split
    · refine ⟨?_, h.a0, h.a1, h.p0, h.p1, h.b8, h.bb⟩
      unfold memB
      simp only [Bool.and_eq_true, decide_eq_true_eq, inB_iff]
      have := Int.emod_nonneg v (show (p.rows.length : Int) ≠ 0 by omega)
      have := Int.emod_lt_of_pos v (show (0 : Int) < p.rows.length by omega)
      exact ⟨m1, m2, m3, by omega, by omega⟩
    · exact h
theorem FormP.setA {p : PM} (h : FormP p) {a : Int} {c : Bool} (a0 : 0 ≤ a) (a1 : a ≤ 255) : FormP { p with a := a, cy := c } := ⟨h.m, a0, a1, h.p0, h.p1, h.b8, h.bb⟩
theorem and_in {a b : Int} (a0 : 0 ≤ a) (a1 : a ≤ 255) (b0 : 0 ≤ b) (b1 : b ≤ 255) : 0 ≤ bits .and .i64 a b ∧ bits .and .i64 a b ≤ 255 := by
  obtain ⟨n, rfl⟩ := Int.eq_ofNat_of_zero_le a0
  obtain ⟨m, rfl⟩ := Int.eq_ofNat_of_zero_le b0
  rw [i64_and_nat n m (by omega) (by omega)]
  have : n &&& m < 2 ^ 8 := Nat.and_lt_two_pow _ (by omega)
  omega
theorem xor_in {a b : Int} (a0 : 0 ≤ a) (a1 : a ≤ 255) (b0 : 0 ≤ b) (b1 : b ≤ 255) : 0 ≤ bits .xor .i64 a b ∧ bits .xor .i64 a b ≤ 255 := by
  obtain ⟨n, rfl⟩ := Int.eq_ofNat_of_zero_le a0
  obtain ⟨m, rfl⟩ := Int.eq_ofNat_of_zero_le b0
  rw [i64_xor_nat n m (by omega) (by omega)]
  have : n ^^^ m < 2 ^ 8 := Nat.xor_lt_two_pow (by omega) (by omega)
  omega
theorem ord_facts {op arg : Int} (h : ordB op arg = true) : (0 ≤ op ∧ op ≤ 15) ∧ (0 ≤ arg ∧ arg ≤ 1023) ∧ (op = 1 → arg ≤ 255) := by
  have hl : inB op 0 15 = true := by
    cases hb : inB op 0 15
    · exfalso
      have : olen op = 0 := by unfold olen; rw [hb]; rfl
      unfold ordB at h
      rw [this] at h
      simp at h
    · rfl
  refine ⟨inB_iff.1 hl, ?_⟩
  unfold ordB at h
  rcases olen_in op with e | e | e | e
  · rw [e] at h; simp at h
  · rw [e] at h
    simp at h
    subst h
    exact ⟨by omega, fun _ => by omega⟩
  · rw [e] at h
    simp [inB_iff] at h
    exact ⟨by omega, fun _ => h.2⟩
  · rw [e] at h
    simp [inB_iff] at h
    refine ⟨h, fun e1 => ?_⟩
    subst e1
    have : olen 1 = 2 := by decide
    omega
theorem form_go {p : PM} (h : FormP p) {op arg : Int} (h0 : 0 ≤ arg) (h1 : arg ≤ 1023) : FormP (goP p op arg) := by
  unfold goP
  split
  · exact ⟨h.m, h.a0, h.a1, h0, h1, h.b8, h.bb⟩
  · split
    · exact ⟨h.m, h.a0, h.a1, h.p0, h.p1, h.b8, h.bb⟩
    · rename_i hn
      split
      · rename_i e
        refine ⟨h.m, h.a0, h.a1, h0, h1, ?_, ?_⟩
        · have := h.b8
          have : p.bs.length ≠ 8 := fun q => hn (.inl ⟨e, q⟩)
          simp only [List.length_append, List.length_cons, List.length_nil]; omega
        · simp only [List.all_append, h.bb, List.all_cons, List.all_nil, Bool.true_and, Bool.and_true, inB_iff]
          exact ⟨h.p0, h.p1⟩
      · split
        · rename_i e
          have hl : p.bs.length ≠ 0 := fun q => hn (.inr (.inl ⟨e, q⟩))
          have hg := List.all_eq_true.1 h.bb (p.bs.getD (p.bs.length - 1) 0) (by
            rw [List.getD_eq_getElem?_getD, List.getElem?_eq_getElem (by omega), Option.getD_some]; exact List.getElem_mem _)
          obtain ⟨g0, g1⟩ := inB_iff.1 hg
          refine ⟨h.m, h.a0, h.a1, g0, g1, ?_, ?_⟩
          · have := h.b8
            simp only [List.length_take]; omega
          · exact List.all_eq_true.2 fun z hz => List.all_eq_true.1 h.bb z (List.mem_of_mem_take hz)
        · exact h
theorem form_exe {p : PM} (h : FormP p) {op arg : Int} (ho : ordB op arg = true) : FormP (exeP p op arg) := by
  obtain ⟨_, ⟨h0, h1⟩, h2⟩ := ord_facts ho
  obtain ⟨k0, k1⟩ := h.pk h0 h1
  obtain ⟨c0, c1⟩ := oneI_in p.cy
  have a0 := h.a0
  have a1 := h.a1
  unfold exeP
  split
  · exact h.setA h0 (h2 ‹_›)
  split
  · exact h.setA k0 k1
  split
  · exact form_poke h a0 a1
  split
  · exact h.setA (by omega) (by omega)
  split
  · exact h.setA (by omega) (by omega)
  split
  · obtain ⟨q0, q1⟩ := and_in a0 a1 k0 k1; exact h.setA q0 q1
  split
  · obtain ⟨q0, q1⟩ := xor_in a0 a1 k0 k1; exact h.setA q0 q1
  split
  · exact h.setA (by omega) (by omega)
  split
  · exact h.setA (by omega) (by omega)
  · exact form_go h h0 h1
theorem dec_ord {b0 b1 b2 op arg n : Int} (h : decP b0 b1 b2 = some (op, arg, n)) (h10 : 0 ≤ b1) (h11 : b1 ≤ 255) (h20 : 0 ≤ b2) (h21 : b2 ≤ 255) : ordB op arg = true ∧ 1 ≤ n ∧ n ≤ 3 := by
  unfold decP at h
  split at h
  · rename_i e
    simp only [Option.some.injEq, Prod.mk.injEq] at h
    obtain ⟨rfl, rfl, rfl⟩ := h
    exact ⟨by unfold ordB; rw [e]; rfl, by omega, by omega⟩
  · split at h
    · rename_i e
      simp only [Option.some.injEq, Prod.mk.injEq] at h
      obtain ⟨rfl, rfl, rfl⟩ := h
      exact ⟨by unfold ordB; rw [e]; simp [inB_iff]; omega, by omega, by omega⟩
    · split at h
      · rename_i e
        simp only [Option.some.injEq, Prod.mk.injEq] at h
        obtain ⟨rfl, rfl, rfl⟩ := h
        exact ⟨by unfold ordB; rw [e.1]; simp [inB_iff]; omega, by omega, by omega⟩
      · cases h
theorem form_step {p : PM} (h : FormP p) : FormP (stepP p) := by
  have p0 := h.p0
  have p1 := h.p1
  unfold stepP
  split
  · exact h
  · split
    · exact ⟨h.m, h.a0, h.a1, h.p0, h.p1, h.b8, h.bb⟩
    · rename_i op arg n hd
      obtain ⟨g10, g11⟩ := h.pk (z := (p.pc + 1) % 1024) (by omega) (by omega)
      obtain ⟨g20, g21⟩ := h.pk (z := (p.pc + 2) % 1024) (by omega) (by omega)
      obtain ⟨ho, n0, n1⟩ := dec_ord hd g10 g11 g20 g21
      exact form_exe (p := { p with pc := (p.pc + n) % 1024, cyc := p.cyc + n }) ⟨h.m, h.a0, h.a1, by show 0 ≤ (p.pc + n) % 1024; omega, by show (p.pc + n) % 1024 ≤ 1023; omega, h.b8, h.bb⟩ ho
theorem goP_cyc (p : PM) (op arg : Int) : (goP p op arg).cyc = p.cyc := by
  unfold goP
  split; rfl
  split; rfl
  split; rfl
  split <;> rfl
theorem exeP_cyc (p : PM) (op arg : Int) : (exeP p op arg).cyc = p.cyc := by
  unfold exeP pokeP
  split; rfl
  split; rfl
  split
  · split; rfl
    split <;> rfl
  split; rfl
  split; rfl
  split; rfl
  split; rfl
  split; rfl
  split; rfl
  exact goP_cyc p op arg
theorem step_cyc {p : PM} (h : FormP p) : p.cyc ≤ (stepP p).cyc ∧ (stepP p).cyc ≤ p.cyc + 3 := by
  have p0 := h.p0
  unfold stepP
  split
  · omega
  · split
    · exact ⟨by show p.cyc ≤ p.cyc; omega, by show p.cyc ≤ p.cyc + 3; omega⟩
    · rename_i op arg n hd
      obtain ⟨g10, g11⟩ := h.pk (z := (p.pc + 1) % 1024) (by omega) (by omega)
      obtain ⟨g20, g21⟩ := h.pk (z := (p.pc + 2) % 1024) (by omega) (by omega)
      obtain ⟨ho, n0, n1⟩ := dec_ord hd g10 g11 g20 g21
      rw [exeP_cyc]
      exact ⟨by show p.cyc ≤ p.cyc + n; omega, by show p.cyc + n ≤ p.cyc + 3; omega⟩
/-- A machine of the call's own, in box b: its rows in three zones. -/
structure MSt (lo h1 h2 b : Nat) (x : Mch) (vs : List Value) (w : World) : Prop where
  blk : Blk w b 28 x.cs
  ram : w.ownsRow lo 3 1 (.slice x.A x.n x.c) x.n (iv x.rs)
  rlt : ∀ k, (Value.slice x.A x.n x.c).ownBlock = some k → k < h2
  rom : ∃ r2, r2 ≤ h2 ∧ (∀ k, (Value.slice x.A x.n x.c).ownBlock = some k → k < h1 ∨ r2 ≤ k) ∧ GOwn w h1 r2 x.R x.rc x.rows vs
  rl : x.rn = x.rows.length
  back : w.ownsRow h2 3 1 (.slice x.B x.bn x.bc) x.bn (iv x.bs)
  o2 : h2 ≤ b
/-- What is not the machine's stays. -/
structure MFr (w w' : World) (b : Nat) (x x' : Mch) : Prop where
  os : w'.os = w.os
  tape : w'.tape = w.tape
  output : w'.output = w.output
  size : w.heap.size ≤ w'.heap.size
  block : ∀ k, k < w.heap.size → k ≠ b → (Value.slice x.A x.n x.c).ownBlock ≠ some k → (Value.slice x.B x.bn x.bc).ownBlock ≠ some k → w'.heap[k]? = w.heap[k]?
  sa : (x'.A, x'.n, x'.c) = (x.A, x.n, x.c)
  sb : (Value.slice x'.B x'.bn x'.bc).ownBlock = (Value.slice x.B x.bn x.bc).ownBlock ∨ ∀ k, (Value.slice x'.B x'.bn x'.bc).ownBlock = some k → w.heap.size ≤ k
theorem MFr.trans {w w1 w2 : World} {b : Nat} {x x1 x2 : Mch} (h : MFr w w1 b x x1) (k : MFr w1 w2 b x1 x2) : MFr w w2 b x x2 := by
  obtain ⟨eA, eN⟩ := Prod.mk.inj h.sa
  obtain ⟨en, ec⟩ := Prod.mk.inj eN
  refine ⟨k.os.trans h.os, k.tape.trans h.tape, k.output.trans h.output, Nat.le_trans h.size k.size, fun i hi hb hA hB => ?_, k.sa.trans h.sa, ?_⟩
  · refine (k.block i (Nat.lt_of_lt_of_le hi h.size) hb (by rw [eA, en, ec]; exact hA) fun e => ?_).trans (h.block i hi hb hA hB)
    rcases h.sb with q | q
    · exact hB (q ▸ e)
    · have := q i e; omega
  · rcases k.sb with q | q
    · rcases h.sb with r | r
      · exact .inl (q.trans r)
      · exact .inr fun i hi => r i (q ▸ hi)
    · exact .inr fun i hi => Nat.le_trans h.size (q i hi)
theorem MFr.of_below {w w' : World} {b : Nat} {x : Mch} (h : Below w.heap.size w w') : MFr w w' b x x :=
  ⟨h.os, h.tape, h.output, h.size, fun k hk _ _ _ => h.block k hk, rfl, .inl rfl⟩
section
variable {w w' : World} {lo h1 h2 b : Nat} {x : Mch} {vs : List Value}
theorem MSt.ne_ram (h : MSt lo h1 h2 b x vs w) : (Value.slice x.A x.n x.c).ownBlock ≠ some b := fun e => by have := h.rlt b e; have := h.o2; omega
theorem MSt.ne_back (h : MSt lo h1 h2 b x vs w) : (Value.slice x.B x.bn x.bc).ownBlock ≠ some b := own_blk_ne h.back h.blk (by decide)
theorem MSt.below (h : MSt lo h1 h2 b x vs w) (d : Below w.heap.size w w') : MSt lo h1 h2 b x vs w' :=
  ⟨h.blk.below d h.blk.lt, own_below h.ram d, h.rlt, (by obtain ⟨r2, q1, q2, q3⟩ := h.rom; exact ⟨r2, q1, q2, q3.below d⟩), h.rl, own_below h.back d, h.o2⟩
theorem MSt.box (h : MSt lo h1 h2 b x vs w) : MBox w b x :=
  ⟨⟨h.blk.lt, h.blk.cell 0, h.blk.cell 1, h.blk.cell 2⟩, h.blk.cell 3, h.blk.cell 4, h.blk.cell 5, h.blk.cell 6, h.blk.cell 7, h.blk.cell 8⟩
theorem MSt.n (h : MSt lo h1 h2 b x vs w) (f : FormP x.pm) : x.n = 256 := by
  have e := h.ram.1
  rw [iv_len] at e
  obtain ⟨⟨r1, -⟩, -⟩ := mem_facts f.m
  have r1 : x.rs.length = 256 := r1
  omega
theorem MSt.bn (h : MSt lo h1 h2 b x vs w) : x.bn = x.bs.length := by
  have e := h.back.1
  rw [iv_len] at e
  omega
theorem MSt.rd (h : MSt lo h1 h2 b x vs w) (f : FormP x.pm) : MRd w x := by
  obtain ⟨-, ⟨r3, r4⟩, r5, -⟩ := mem_facts f.m
  have r4 : x.rows.length ≤ 4 := r4
  have r5 : x.rows.all rowB = true := r5
  have hn := h.n f
  have hb := h.bn
  have b8 : x.bs.length ≤ 8 := f.b8
  refine ⟨⟨own_ints h.ram, by rw [h.rl]; obtain ⟨r2, q1, q2, q3⟩ := h.rom; exact q3.rd, by omega, by rw [h.rl]; omega, fun k hk => ?_⟩, own_ints h.back, by omega⟩
  have := (rows_get r5 (k := k) (by rw [← h.rl]; exact hk)).1
  omega
/-- A field of one cell is set. -/
theorem MSt.field (h : MSt lo h1 h2 b x vs w) (k : Nat) (u : Value) (x' : Mch) (hcs : x'.cs = x.cs.setIfInBounds k u) (ha : (x'.A, x'.n, x'.c, x'.rs) = (x.A, x.n, x.c, x.rs)) (hr : (x'.R, x'.rn, x'.rc, x'.rows) = (x.R, x.rn, x.rc, x.rows)) (hb : (x'.B, x'.bn, x'.bc, x'.bs) = (x.B, x.bn, x.bc, x.bs)) :
    MSt lo h1 h2 b x' vs (w.setCell ⟨b, k, none⟩ u) ∧ MFr w (w.setCell ⟨b, k, none⟩ u) b x x' := by
  have hne := h.ne_ram
  have hnb := h.ne_back
  obtain ⟨A, n, c, rs, R, rn, rc, rows, bank, a, pc, cy, B, bn, bc, bs, st, cyc⟩ := x
  obtain ⟨A', n', c', rs', R', rn', rc', rows', bank', a', pc', cy', B', bn', bc', bs', st', cyc'⟩ := x'
  simp only [Prod.mk.injEq] at ha hr hb
  obtain ⟨rfl, rfl, rfl, rfl⟩ := ha
  obtain ⟨rfl, rfl, rfl, rfl⟩ := hr
  obtain ⟨rfl, rfl, rfl, rfl⟩ := hb
  have far : ∀ g, g ≠ b → (w.setCell ⟨b, k, none⟩ u).heap[g]? = w.heap[g]? := fun g hg => Below.heap_setCell w ⟨b, k, none⟩ u g hg
  refine ⟨⟨?_, own_same h.ram fun g hg => far g fun e => hne (e ▸ hg), h.rlt, ?_, h.rl, own_same h.back fun g hg => far g fun e => hnb (e ▸ hg), h.o2⟩, ⟨rfl, rfl, rfl, by simp [World.setCell], fun i hi hb' _ _ => far i hb', rfl, .inl rfl⟩⟩
  · rw [hcs]; exact h.blk.set_ k u
  · obtain ⟨r2, q1, q2, q3⟩ := h.rom
    exact ⟨r2, q1, q2, local_ZG _ _ _ _ _ _ w _ q3 (by simp [World.setCell]) fun i i1 i2 => far i (by have := h.o2; omega)⟩
/-- A byte of the working memory is set. -/
theorem MSt.ramSet {g : Nat} (h : MSt lo h1 h2 b x vs w) (hA : x.A = some ⟨g, 0, none⟩) (j : Nat) (v : Int) :
    MSt lo h1 h2 b { x with rs := x.rs.set j v } vs (w.setCell ⟨g, j, none⟩ (.int .i64 v)) ∧ MFr w (w.setCell ⟨g, j, none⟩ (.int .i64 v)) b x { x with rs := x.rs.set j v } := by
  obtain ⟨A, n, c, rs, R, rn, rc, rows, bank, a, pc, cy, B, bn, bc, bs, st, cyc⟩ := x
  simp only at hA
  subst hA
  have hg : g < h2 := h.rlt g rfl
  have hg0 := (h.ram.lt g rfl).1
  have hgb : g ≠ b := by have := h.o2; omega
  obtain ⟨s1, s2⟩ := h.ram.stored j (.int .i64 v)
  have far : ∀ k, k ≠ g → (w.setCell ⟨g, j, none⟩ (.int .i64 v)).heap[k]? = w.heap[k]? := fun k hk => Below.heap_setCell w ⟨g, j, none⟩ _ k hk
  refine ⟨⟨h.blk.far (Ne.symm hgb) _, ?_, h.rlt, ?_, h.rl, own_same h.back fun k hk => far k fun e => ?_, h.o2⟩, ⟨rfl, rfl, rfl, by simp [World.setCell], fun i hi _ hA _ => far i fun e => hA (by rw [e]; rfl), rfl, .inl rfl⟩⟩
  · have e : iv (rs.set j v) = (iv rs).set j (.int .i64 v) := by simp [iv, List.map_set]
    show World.ownsRow _ _ _ _ _ _ (iv (rs.set j v))
    rw [e]; exact s1
  · obtain ⟨r2, q1, q2, q3⟩ := h.rom
    exact ⟨r2, q1, q2, local_ZG _ _ _ _ _ _ w _ q3 (by simp [World.setCell]) fun i i1 i2 => far i (by have := q2 g rfl; omega)⟩
  · have := (h.back.lt k hk).1; omega
/-- The return addresses are another row. -/
theorem MSt.newBack {w1 : World} {B' : Option Addr} {bn' bc' : Nat} {bs' : List Int} (h : MSt lo h1 h2 b x vs w) (o : w1.ownsRow h2 3 1 (.slice B' bn' bc') bn' (iv bs')) (g : w.grownBy w1 (Value.slice x.B x.bn x.bc).ownBlock)
    (k : (Value.slice B' bn' bc').ownBlock = (Value.slice x.B x.bn x.bc).ownBlock ∨ ∀ i, (Value.slice B' bn' bc').ownBlock = some i → w.heap.size ≤ i) :
    MSt lo h1 h2 b { x with B := B', bn := bn', bc := bc', bs := bs' } vs (w1.setCell ⟨b, 6, none⟩ (.slice B' bn' bc')) ∧ MFr w (w1.setCell ⟨b, 6, none⟩ (.slice B' bn' bc')) b x { x with B := B', bn := bn', bc := bc', bs := bs' } := by
  have hnb := h.ne_back
  have hne := h.ne_ram
  have bk : ∀ i, (Value.slice x.B x.bn x.bc).ownBlock = some i → h2 ≤ i := fun i hi => (h.back.lt i hi).1
  have blk1 : Blk w1 b 28 x.cs := h.blk.grown g (Ne.symm hnb)
  have ram1 : w1.ownsRow lo 3 1 (.slice x.A x.n x.c) x.n (iv x.rs) := own_same h.ram fun i hi => g.block i (h.ram.lt i hi).2 fun e => by have := bk i e.symm; have := h.rlt i hi; omega
  obtain ⟨r2, q1, q2, q3⟩ := h.rom
  have rom1 : GOwn w1 h1 r2 x.R x.rc x.rows vs := by
    refine local_ZG _ _ _ _ _ _ w _ q3 g.size fun i i1 i2 => ?_
    rcases Nat.lt_or_ge i w.heap.size with hi | hi
    · exact g.block i hi fun e => by have := bk i e.symm; omega
    · exfalso
      have := h.o2
      have := h.blk.lt
      omega
  have hnb1 : (Value.slice B' bn' bc').ownBlock ≠ some b := own_blk_ne o blk1 (by decide)
  have far : ∀ i, i ≠ b → (w1.setCell ⟨b, 6, none⟩ (.slice B' bn' bc')).heap[i]? = w1.heap[i]? := fun i hi => Below.heap_setCell w1 ⟨b, 6, none⟩ _ i hi
  refine ⟨⟨?_, own_same ram1 fun i hi => far i fun e => hne (e ▸ hi), h.rlt, ?_, h.rl, own_same o fun i hi => far i fun e => hnb1 (e ▸ hi), h.o2⟩, ⟨g.os, g.tape, g.output, by simpa [World.setCell] using g.size, fun i hi hb _ hB => (far i hb).trans (g.block i hi fun e => hB e.symm), rfl, k⟩⟩
  · exact blk1.set_ 6 _
  · exact ⟨r2, q1, q2, local_ZG _ _ _ _ _ _ w1 _ rom1 (by simp [World.setCell]) fun i i1 i2 => far i (by have := h.o2; omega)⟩
theorem own_shrink {w : World} {base e size n m c : Nat} {A : Option Addr} {xs : List Value} (h : w.ownsRow base e size (.slice A n c) n xs) (hm : m ≤ n) : w.ownsRow base e size (.slice A m c) m (xs.take (m * size)) := by
  obtain ⟨h1, h2⟩ := h
  have hmn : m * size ≤ n * size := Nat.mul_le_mul_right _ hm
  refine ⟨by rw [List.length_take, h1]; omega, ?_⟩
  rcases h2 with ⟨e1, e2⟩ | ⟨g, cap, cur, e1, q1, q2, q3, q4, q5, q6⟩
  · injection e1 with e1 e3 e4
    exact .inl ⟨by rw [e1, e4, show m = 0 by omega], by omega⟩
  · injection e1 with e1 e3 e4
    exact .inr ⟨g, cap, cur, by rw [e1, e4], q1, q2, by omega, q4, q5, by rw [← q6, List.take_take, Nat.min_eq_left hmn]⟩
end
end Go.Proofs.Ytgedfcccflobmaa
