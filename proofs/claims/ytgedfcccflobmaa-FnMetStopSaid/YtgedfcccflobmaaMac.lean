/-
  Machines to be read; MemoryValid, MachineValid of both packages. No condition but that lengths stay in range.
-/
import Derived.Test.YtgedfcccflobmaaBytes
import Derived.Test.YtgedfcccflobmaaGri
namespace Go.Proofs.Ytgedfcccflobmaa
open Go.RowKit
set_option linter.unusedVariables false
set_option linter.unusedSimpArgs false
/-- A machine: its memory (the slices that hold it, the numbers), and its numbers. -/
structure Mch where
  A : Option Addr
  n : Nat
  c : Nat
  rs : List Int
  R : Option Addr
  rn : Nat
  rc : Nat
  rows : List (List Int)
  bank : Int
  a : Int
  pc : Int
  cy : Bool
  B : Option Addr
  bn : Nat
  bc : Nat
  bs : List Int
  st : Bool
  cyc : Int
def memV (A : Option Addr) (n c : Nat) (R : Option Addr) (rn rc : Nat) (bank : Int) : Value := .agg #[.slice A n c, .slice R rn rc, .int .i64 bank]
def Mch.cs (x : Mch) : Array Value := #[.slice x.A x.n x.c, .slice x.R x.rn x.rc, .int .i64 x.bank, .int .i64 x.a, .int .i64 x.pc, .bool x.cy, .slice x.B x.bn x.bc, .bool x.st, .int .i64 x.cyc]
def Mch.val (x : Mch) : Value := .agg x.cs
structure MemRd (w : World) (A : Option Addr) (n : Nat) (rs : List Int) (R : Option Addr) (rn : Nat) (rows : List (List Int)) : Prop where
  ram : Ints w w.heap.size A n rs
  rom : GRd w R rn rows
  hn : n ≤ 1000000000
  hr : rn ≤ 1000000000
  hd : ∀ k, k < rn → (rows.getD k []).length ≤ 1000000000
theorem MemRd.below {w w' : World} {A R : Option Addr} {n rn : Nat} {rs : List Int} {rows : List (List Int)} (h : MemRd w A n rs R rn rows) (b : Below w.heap.size w w') : MemRd w' A n rs R rn rows := ⟨(h.ram.below b).more b.size, h.rom.below b, h.hn, h.hr, h.hd⟩
structure MRd (w : World) (x : Mch) : Prop where
  m : MemRd w x.A x.n x.rs x.R x.rn x.rows
  back : Ints w w.heap.size x.B x.bn x.bs
  hb : x.bn ≤ 1000000000
theorem MRd.below {w w' : World} {x : Mch} (h : MRd w x) (b : Below w.heap.size w w') : MRd w' x := ⟨h.m.below b, (h.back.below b).more b.size, h.hb⟩
/-- A memory's cells at the head of block b. -/
structure MemBox (w : World) (b : Nat) (A : Option Addr) (n c : Nat) (R : Option Addr) (rn rc : Nat) (bank : Int) : Prop where
  lt : b < w.heap.size
  c0 : w.cell? ⟨b, 0, none⟩ = some (.slice A n c)
  c1 : w.cell? ⟨b, 1, none⟩ = some (.slice R rn rc)
  c2 : w.cell? ⟨b, 2, none⟩ = some (.int .i64 bank)
theorem MemBox.below {w w' : World} {b : Nat} {A R : Option Addr} {n c rn rc : Nat} {bank : Int} (h : MemBox w b A n c R rn rc bank) (d : Below w.heap.size w w') : MemBox w' b A n c R rn rc bank :=
  ⟨Nat.lt_of_lt_of_le h.lt d.size, (d.cell h.lt).trans h.c0, (d.cell h.lt).trans h.c1, (d.cell h.lt).trans h.c2⟩
structure MBox (w : World) (b : Nat) (x : Mch) : Prop where
  m : MemBox w b x.A x.n x.c x.R x.rn x.rc x.bank
  c3 : w.cell? ⟨b, 3, none⟩ = some (.int .i64 x.a)
  c4 : w.cell? ⟨b, 4, none⟩ = some (.int .i64 x.pc)
  c5 : w.cell? ⟨b, 5, none⟩ = some (.bool x.cy)
  c6 : w.cell? ⟨b, 6, none⟩ = some (.slice x.B x.bn x.bc)
  c7 : w.cell? ⟨b, 7, none⟩ = some (.bool x.st)
  c8 : w.cell? ⟨b, 8, none⟩ = some (.int .i64 x.cyc)
theorem MBox.lt {w : World} {b : Nat} {x : Mch} (h : MBox w b x) : b < w.heap.size := h.m.lt
theorem MBox.below {w w' : World} {b : Nat} {x : Mch} (h : MBox w b x) (d : Below w.heap.size w w') : MBox w' b x :=
  ⟨h.m.below d, (d.cell h.lt).trans h.c3, (d.cell h.lt).trans h.c4, (d.cell h.lt).trans h.c5, (d.cell h.lt).trans h.c6, (d.cell h.lt).trans h.c7, (d.cell h.lt).trans h.c8⟩
theorem MBox.all {w : World} {b : Nat} {x : Mch} (h : MBox w b x) : (w.cell? ⟨b, 0, none⟩ = some (.slice x.A x.n x.c) ∧ w.cell? ⟨b, 1, none⟩ = some (.slice x.R x.rn x.rc) ∧ w.cell? ⟨b, 2, none⟩ = some (.int .i64 x.bank)) ∧
    w.cell? ⟨b, 3, none⟩ = some (.int .i64 x.a) ∧ w.cell? ⟨b, 4, none⟩ = some (.int .i64 x.pc) ∧ w.cell? ⟨b, 5, none⟩ = some (.bool x.cy) ∧ w.cell? ⟨b, 6, none⟩ = some (.slice x.B x.bn x.bc) ∧ w.cell? ⟨b, 7, none⟩ = some (.bool x.st) ∧ w.cell? ⟨b, 8, none⟩ = some (.int .i64 x.cyc) :=
  ⟨⟨h.m.c0, h.m.c1, h.m.c2⟩, h.c3, h.c4, h.c5, h.c6, h.c7, h.c8⟩
theorem MemBox.new (w : World) (A : Option Addr) (n c : Nat) (R : Option Addr) (rn rc : Nat) (bank : Int) (t : TypeId) : MemBox (w.alloc (.cells #[.slice A n c, .slice R rn rc, .int .i64 bank] t)) w.heap.size A n c R rn rc bank :=
  ⟨by simp, cell_new .., cell_new .., cell_new ..⟩
theorem MBox.new (w : World) (x : Mch) (t : TypeId) : MBox (w.alloc (.cells x.cs t)) w.heap.size x :=
  ⟨⟨by simp, cell_new .., cell_new .., cell_new ..⟩, cell_new .., cell_new .., cell_new .., cell_new .., cell_new .., cell_new ..⟩
/-- A bank, by itself. -/
def rowB (r : List Int) : Bool := decide (r.length = 256) && allB r
def banksB (rows : List (List Int)) : Bool := inB rows.length 1 4 && rows.all rowB
def memB (rs : List Int) (rows : List (List Int)) (bank : Int) : Bool := decide (rs.length = 256) && (allB rs && (banksB rows && inB bank 0 ((rows.length : Int) - 1)))
theorem rows_bad {rows : List (List Int)} {k : Nat} (hk : k < rows.length) (h : rowB (rows.getD k []) = false) : rows.all rowB = false := by
  rw [List.getD_eq_getElem?_getD, List.getElem?_eq_getElem hk, Option.getD_some] at h
  simp only [List.all_eq_false]
  exact ⟨_, List.getElem_mem hk, by rw [h]; simp⟩
theorem rows_take {rows : List (List Int)} {k : Nat} (hk : k < rows.length) (h : (rows.take k).all rowB = true) (h2 : rowB (rows.getD k []) = true) : (rows.take (k + 1)).all rowB = true := by
  rw [List.take_add_one, List.getElem?_eq_getElem hk, List.all_append, h]
  rw [List.getD_eq_getElem?_getD, List.getElem?_eq_getElem hk, Option.getD_some] at h2
  simp [h2]
theorem rows_get {rows : List (List Int)} {k : Nat} (h : rows.all rowB = true) (hk : k < rows.length) : (rows.getD k []).length = 256 ∧ allB (rows.getD k []) = true := by
  rw [List.getD_eq_getElem?_getD, List.getElem?_eq_getElem hk, Option.getD_some]
  have := List.all_eq_true.1 h _ (List.getElem_mem hk)
  simpa [rowB] using this
set_option maxHeartbeats 1000000 in
theorem l2Bytes_row (A : Option Addr) (n c : Nat) (xs : List Int) (w : World) (h : Ints w w.heap.size A n xs) (hn : n ≤ 1000000000) :
    Calls Try.prog 62 #[.slice A n c, .int .i64 256] w fun e w' => e = .returned (.bool (rowB xs)) ∧ w = w' := by
  have hl := h.len
  have H := Lib.hid h
  clear h
  have hrow : rowB xs = (decide (n = 256) && allB xs) := by unfold rowB; rw [hl]
  rw [hrow]
  by_cases h6 : n = 256
  · have e6 : ((n : Int) == 256) = true := by simp; omega
    rw [show decide (n = 256) = true from decide_eq_true h6, Bool.true_and]
    clear hrow
    replace h6 := Lib.hid h6
    go_enter Try.func62, Try.ntmps62
    go_wp2
    go_loop [5] (fun i => ∃ k : Nat, k ≤ n ∧ i = .int .i64 k ∧ allB (xs.take k) = true) (fun i => n - (intOf i).toNat)
    case atStart => exact ⟨0, Nat.zero_le _, rfl, rfl⟩
    case round =>
      obtain ⟨k, hk, rfl, hall⟩ := hrel
      by_cases hlt : k < n
      · obtain ⟨b, off, e1, _, h2⟩ := H.out.spot hlt
        obtain ⟨z, hz⟩ : ∃ z, z = xs.getD k 0 := ⟨_, rfl⟩
        have q1 : (k : Int) < (n : Int) := by omega
        rw [← hz] at h2
        have e1 := Lib.hid e1
        cases hb : inB z 0 255
        · have hbad := allB_bad (by omega) (hz ▸ hb)
          have e2 := e1.out
          have HB := Lib.hid hbad
          clear hz hall hbad e1 H
          subst e2
          go_wp2_with (go_at_call 37; refine (l1Byte_any _ _).mono ?_; rintro e w' ⟨rfl, rfl⟩; rw [hb])
          go_ret
          exact ⟨by rw [HB.out]; rfl, rfl⟩
        · have hall2 := Lib.hid (allB_take (by omega) hall (hz ▸ hb))
          have e2 := e1.out
          clear hz hall e1 H
          subst e2
          go_wp2_with (go_at_call 37; refine (l1Byte_any _ _).mono ?_; rintro e w' ⟨rfl, rfl⟩; rw [hb])
          go_round
          case rel => exact ⟨k + 1, by omega, by go_num, hall2.out⟩
          case measure => simp [intOf]; omega
      · obtain rfl : k = n := by omega
        rw [List.take_of_length_le (by omega)] at hall
        go_wp2
        go_ret
        exact ⟨by first | rfl | (rw [hall]; rfl), rfl⟩
  · have e6 : ((n : Int) == 256) = false := by simp; omega
    rw [show decide (n = 256) = false from decide_eq_false h6, Bool.false_and]
    clear hrow
    replace h6 := Lib.hid h6
    go_enter Try.func62, Try.ntmps62
    go_wp2
    go_loop [5] (fun i => ∃ k : Nat, k ≤ n ∧ i = .int .i64 k ∧ allB (xs.take k) = true) (fun i => n - (intOf i).toNat)
    case atStart => exact ⟨0, Nat.zero_le _, rfl, rfl⟩
    case round =>
      obtain ⟨k, hk, rfl, hall⟩ := hrel
      by_cases hlt : k < n
      · obtain ⟨ad, e1, hb1, hc⟩ := H.out.at_ hlt
        subst e1
        have q0 : (0 : Int) ≤ (k : Int) := by omega
        have q1 : (k : Int) < (n : Int) := by omega
        have eg : xs.getD k 0 = xs[k]'(by omega) := by rw [List.getD_eq_getElem?_getD, List.getElem?_eq_getElem (by omega), Option.getD_some]
        cases hb : inB (xs[k]'(by omega)) 0 255
        · clear hall eg
          go_wp2_with (go_at_call 37; refine (l1Byte_any _ _).mono ?_; rintro e w' ⟨rfl, rfl⟩; rw [hb])
          go_ret
          exact ⟨rfl, rfl⟩
        · have hall2 := Lib.hid (allB_take (by omega) hall (eg ▸ hb))
          clear hall eg
          go_wp2_with (go_at_call 37; refine (l1Byte_any _ _).mono ?_; rintro e w' ⟨rfl, rfl⟩; rw [hb])
          go_round
          case rel => exact ⟨k + 1, by omega, by go_num, hall2.out⟩
          case measure => simp [intOf]; omega
      · obtain rfl : k = n := by omega
        clear hall
        go_wp2
        go_ret
        exact ⟨rfl, rfl⟩
set_option maxHeartbeats 1000000 in
theorem banksValid_any (R : Option Addr) (rn rc : Nat) (rows : List (List Int)) (w : World) (h : GRd w R rn rows) (hn : rn ≤ 1000000000) (hd : ∀ k, k < rn → (rows.getD k []).length ≤ 1000000000) :
    Calls Try.prog 95 #[.slice R rn rc] w fun e w' => e = .returned (.bool (banksB rows)) ∧ w = w' := by
  have hl := h.1
  have H := Lib.hid h
  have HD := Lib.hid hd
  clear h hd
  have hbk : banksB rows = (inB rn 1 4 && rows.all rowB) := by unfold banksB; rw [hl]
  rw [hbk]
  clear hbk
  cases h1 : inB rn 1 4
  · rw [Bool.false_and]
    go_enter Try.func95, Try.ntmps95
    go_wp2_with (go_at_call 30; refine (within_any _ _ _ _).mono ?_; rintro e w' ⟨rfl, rfl⟩; rw [h1])
    go_ret
    exact ⟨rfl, rfl⟩
  rw [Bool.true_and]
  go_enter Try.func95, Try.ntmps95
  go_wp2_with (go_at_call 30; refine (within_any _ _ _ _).mono ?_; rintro e w' ⟨rfl, rfl⟩; rw [h1])
  clear h1
  go_loop [11] (fun i => ∃ k : Nat, k ≤ rn ∧ i = .int .i64 k ∧ (rows.take k).all rowB = true) (fun i => rn - (intOf i).toNat)
  case atStart => exact ⟨0, Nat.zero_le _, rfl, rfl⟩
  case round =>
    obtain ⟨k, hk, rfl, hall⟩ := hrel
    by_cases hlt : k < rn
    · obtain ⟨b, off, A', c', e1, hbb, c1, hc1, hc2, hi⟩ := H.out.spot hlt
      subst e1
      have hd := HD.out k hlt
      have q0 : (0 : Int) ≤ (k : Int) := by omega
      have q1 : (k : Int) < (rn : Int) := by omega
      have HI := Lib.hid hi
      have hgood := Lib.hid (rows_take (k := k) (by omega) hall)
      have hbad := Lib.hid (rows_bad (k := k) (rows := rows) (by omega))
      obtain ⟨xs, hx⟩ : ∃ xs, rows.getD k [] = xs := ⟨_, rfl⟩
      rw [hx] at c1 hc1 HI hgood hbad hd
      clear hall hi hx
      by_cases h6 : xs.length = 256
      · have e6 : ((xs.length : Int) == 256) = true := by simp; omega
        have e7 : ((xs.length : Int) != 256) = false := by simp; omega
        replace h6 := Lib.hid h6
        cases hb : allB xs
        · go_wp2_with (go_at_call 94; refine (allBytes_any _ _ _ _ _ HI.out hd).mono ?_; rintro e w' ⟨rfl, rfl⟩; rw [hb])
          go_ret
          exact ⟨by rw [hbad.out (by unfold rowB; rw [hb, Bool.and_false])]; rfl, rfl⟩
        · go_wp2_with (go_at_call 94; refine (allBytes_any _ _ _ _ _ HI.out hd).mono ?_; rintro e w' ⟨rfl, rfl⟩; rw [hb])
          go_round
          case rel => exact ⟨k + 1, by omega, by go_num, hgood.out (by unfold rowB; rw [hb, decide_eq_true h6.out]; rfl)⟩
          case measure => simp [intOf]; omega
      · have e6 : ((xs.length : Int) == 256) = false := by simp; omega
        have e7 : ((xs.length : Int) != 256) = true := by simp; omega
        go_wp2_with fail
        go_ret
        exact ⟨by rw [hbad.out (by unfold rowB; rw [decide_eq_false h6, Bool.false_and])]; rfl, rfl⟩
    · obtain rfl : k = rn := by omega
      rw [List.take_of_length_le (by omega)] at hall
      go_wp2
      go_ret
      exact ⟨by first | rfl | (rw [hall]; rfl), rfl⟩
set_option maxRecDepth 4000 in
set_option maxHeartbeats 1000000 in
theorem memoryValid_impl (A : Option Addr) (n c : Nat) (rs : List Int) (R : Option Addr) (rn rc : Nat) (rows : List (List Int)) (bank : Int) (w : World) (h : MemRd w A n rs R rn rows) :
    Calls Try.prog 74 #[.agg #[.slice A n c, .slice R rn rc, .int .i64 bank]] w fun e w' => e = .returned (.bool (memB rs rows bank)) ∧ Below w.heap.size w w' := by
  have hrl := h.ram.len
  have hgl := h.rom.1
  have hb0 : Below w.heap.size w (w.alloc (.cells #[.slice A n c, .slice R rn rc, .int .i64 bank] 26)) := (Below.refl _ _).alloc (Nat.le_refl _) _
  have HM := Lib.hid (h.below hb0)
  have HB0 := Lib.hid hb0
  clear h hb0
  have hb := trivial
  have hk := trivial
  by_cases h6 : n = 256
  · have e6 : ((n : Int) == 256) = true := by simp; omega
    have e7 : ((n : Int) != 256) = false := by simp; omega
    have h6' : rs.length = 256 := by omega
    replace hrl := Lib.hid hrl
    replace h6 := Lib.hid h6
    cases hb : allB rs
    · replace h6' := Lib.hid h6'
      have hbad := Lib.hid (show memB rs rows bank = false by unfold memB; simp [hb])
      rw [hbad.out]
      go_enter Try.func74, Try.ntmps74
      go_wp2_with (first | (go_at_call 94; refine (allBytes_any _ _ _ _ _ HM.out.ram HM.out.hn).mono ?_; rintro e w' ⟨rfl, rfl⟩; rw [hb]) | (go_at_call 95; refine (banksValid_any _ _ _ _ _ HM.out.rom HM.out.hr HM.out.hd).mono ?_; rintro e w' ⟨rfl, rfl⟩; rw [hk]))
      go_ret
      exact ⟨rfl, HB0.out⟩
    cases hk : banksB rows
    · replace h6' := Lib.hid h6'
      have hbad := Lib.hid (show memB rs rows bank = false by unfold memB; simp [hk])
      rw [hbad.out]
      go_enter Try.func74, Try.ntmps74
      go_wp2_with (first | (go_at_call 94; refine (allBytes_any _ _ _ _ _ HM.out.ram HM.out.hn).mono ?_; rintro e w' ⟨rfl, rfl⟩; rw [hb]) | (go_at_call 95; refine (banksValid_any _ _ _ _ _ HM.out.rom HM.out.hr HM.out.hd).mono ?_; rintro e w' ⟨rfl, rfl⟩; rw [hk]))
      go_ret
      exact ⟨rfl, HB0.out⟩
    have hres : memB rs rows bank = inB bank 0 ((rn : Int) - 1) := by unfold memB; rw [hb, hk, hgl, decide_eq_true h6']; rfl
    rw [hres]
    replace h6' := Lib.hid h6'
    replace hgl := Lib.hid hgl
    clear hres
    by_cases hk0 : bank < 0
    · rw [inB_out (.inl hk0)]
      go_enter Try.func74, Try.ntmps74
      go_wp2_with (first | (go_at_call 94; refine (allBytes_any _ _ _ _ _ HM.out.ram HM.out.hn).mono ?_; rintro e w' ⟨rfl, rfl⟩; rw [hb]) | (go_at_call 95; refine (banksValid_any _ _ _ _ _ HM.out.rom HM.out.hr HM.out.hd).mono ?_; rintro e w' ⟨rfl, rfl⟩; rw [hk]))
      go_ret
      exact ⟨rfl, HB0.out⟩
    by_cases hk1 : bank < (rn : Int)
    · rw [inB_true (by omega)]
      go_enter Try.func74, Try.ntmps74
      go_wp2_with (first | (go_at_call 94; refine (allBytes_any _ _ _ _ _ HM.out.ram HM.out.hn).mono ?_; rintro e w' ⟨rfl, rfl⟩; rw [hb]) | (go_at_call 95; refine (banksValid_any _ _ _ _ _ HM.out.rom HM.out.hr HM.out.hd).mono ?_; rintro e w' ⟨rfl, rfl⟩; rw [hk]))
      go_ret
      exact ⟨rfl, HB0.out⟩
    · rw [inB_out (.inr (by omega))]
      go_enter Try.func74, Try.ntmps74
      go_wp2_with (first | (go_at_call 94; refine (allBytes_any _ _ _ _ _ HM.out.ram HM.out.hn).mono ?_; rintro e w' ⟨rfl, rfl⟩; rw [hb]) | (go_at_call 95; refine (banksValid_any _ _ _ _ _ HM.out.rom HM.out.hr HM.out.hd).mono ?_; rintro e w' ⟨rfl, rfl⟩; rw [hk]))
      go_ret
      exact ⟨ret_bool (decide_eq_false (by omega)), HB0.out⟩
  · have e6 : ((n : Int) == 256) = false := by simp; omega
    have e7 : ((n : Int) != 256) = true := by simp; omega
    have h6' : ¬ rs.length = 256 := by omega
    replace hrl := Lib.hid hrl
    have hbad := Lib.hid (show memB rs rows bank = false by unfold memB; simp [h6'])
    rw [hbad.out]
    go_enter Try.func74, Try.ntmps74
    go_wp2_with (first | (go_at_call 94; refine (allBytes_any _ _ _ _ _ HM.out.ram HM.out.hn).mono ?_; rintro e w' ⟨rfl, rfl⟩; rw [hb]) | (go_at_call 95; refine (banksValid_any _ _ _ _ _ HM.out.rom HM.out.hr HM.out.hd).mono ?_; rintro e w' ⟨rfl, rfl⟩; rw [hk]))
    go_ret
    exact ⟨rfl, HB0.out⟩
theorem memB_eq (rs : List Int) (rows : List (List Int)) (bank : Int) : memB rs rows bank = (rows.all rowB && (rowB rs && (inB rows.length 1 4 && inB bank 0 ((rows.length : Int) - 1)))) := by
  unfold memB banksB
  rw [show rowB rs = (decide (rs.length = 256) && allB rs) from rfl]
  cases decide (rs.length = 256) <;> cases allB rs <;> cases inB (rows.length : Int) 1 4 <;> cases rows.all rowB <;> simp
set_option maxRecDepth 4000 in
set_option maxHeartbeats 2000000 in
theorem memoryValid_spec (A : Option Addr) (n c : Nat) (rs : List Int) (R : Option Addr) (rn rc : Nat) (rows : List (List Int)) (bank : Int) (w : World) (h : MemRd w A n rs R rn rows) :
    Calls Try.prog 36 #[.agg #[.slice A n c, .slice R rn rc, .int .i64 bank]] w fun e w' => e = .returned (.bool (memB rs rows bank)) ∧ Below w.heap.size w w' := by
  have hrl := Lib.hid h.ram.len
  have hgl := h.rom.1
  have hb0 : Below w.heap.size w (w.alloc (.cells #[.slice A n c, .slice R rn rc, .int .i64 bank] 26)) := (Below.refl _ _).alloc (Nat.le_refl _) _
  have HM := Lib.hid (h.below hb0)
  have HB0 := Lib.hid hb0
  have hrn := h.hr
  clear h hb0
  have hres := memB_eq rs rows bank
  rw [hgl] at hres
  rw [hres]
  clear hres
  go_enter Try.func36, Try.ntmps36
  go_wp2_with fail
  go_loop [3] (fun i => ∃ k : Nat, k ≤ rn ∧ i = .int .i64 k ∧ (rows.take k).all rowB = true) (fun i => rn - (intOf i).toNat)
  case atStart => exact ⟨0, Nat.zero_le _, rfl, rfl⟩
  case round =>
    obtain ⟨k, hk, rfl, hall⟩ := hrel
    by_cases hlt : k < rn
    · obtain ⟨b, off, A', c', e1, hbb, c1, hc1, hc2, hi⟩ := HM.out.rom.spot hlt
      have hd := HM.out.hd k hlt
      subst e1
      have q0 : (0 : Int) ≤ (k : Int) := by omega
      have q1 : (k : Int) < (rn : Int) := by omega
      have HI := Lib.hid hi
      have hgood := Lib.hid (rows_take (k := k) (by omega) hall)
      have hbad := Lib.hid (rows_bad (k := k) (rows := rows) (by omega))
      obtain ⟨xs, hx⟩ : ∃ xs, rows.getD k [] = xs := ⟨_, rfl⟩
      rw [hx] at c1 hc1 HI hgood hbad hd
      replace hgl := Lib.hid hgl
      clear hall hi hx
      cases hb : rowB xs
      · go_wp2_with (go_at_call 62; refine (l2Bytes_row _ _ _ _ _ HI.out hd).mono ?_; rintro e w' ⟨rfl, rfl⟩; rw [hb])
        go_ret
        exact ⟨by rw [hbad.out hb]; rfl, HB0.out⟩
      · go_wp2_with (go_at_call 62; refine (l2Bytes_row _ _ _ _ _ HI.out hd).mono ?_; rintro e w' ⟨rfl, rfl⟩; rw [hb])
        go_round
        case rel => exact ⟨k + 1, by omega, by go_num, hgood.out hb⟩
        case measure => simp [intOf]; omega
    · obtain rfl : k = rn := by omega
      rw [List.take_of_length_le (by omega)] at hall
      replace hall := Lib.hid hall
      replace hgl := Lib.hid hgl
      have hw9 : IntKind.i64.wrap ((k : Int) - 1) = (k : Int) - 1 := IntWalk.i64_in _ (by omega)
      cases hb : rowB rs
      · have hk := trivial
        go_wp2_with (first | (go_at_call 62; refine (l2Bytes_row _ _ _ _ _ HM.out.ram HM.out.hn).mono ?_; rintro e w' ⟨rfl, rfl⟩; rw [hb]) | (go_at_call 33; with_reducible refine (l1In_any (rn : Int) 1 4 _).mono ?_; rintro e w' ⟨rfl, rfl⟩; rw [hk]) | (go_at_call 33; with_reducible refine (l1In_any bank 0 _ _).mono ?_; rintro e w' ⟨rfl, rfl⟩))
        go_ret
        exact ⟨by rw [hall.out, hb]; rfl, HB0.out⟩
      cases hk : inB (k : Int) 1 4
      · go_wp2_with (first | (go_at_call 62; refine (l2Bytes_row _ _ _ _ _ HM.out.ram HM.out.hn).mono ?_; rintro e w' ⟨rfl, rfl⟩; rw [hb]) | (go_at_call 33; with_reducible refine (l1In_any (k : Int) 1 4 _).mono ?_; rintro e w' ⟨rfl, rfl⟩; rw [hk]))
        go_ret
        exact ⟨by rw [hall.out, hb, hk]; rfl, HB0.out⟩
      · go_wp2_with (first | (go_at_call 62; refine (l2Bytes_row _ _ _ _ _ HM.out.ram HM.out.hn).mono ?_; rintro e w' ⟨rfl, rfl⟩; rw [hb]) | (go_at_call 33; with_reducible refine (l1In_any (k : Int) 1 4 _).mono ?_; rintro e w' ⟨rfl, rfl⟩; rw [hk]) | (go_at_call 33; with_reducible refine (l1In_any bank 0 _ _).mono ?_; rintro e w' ⟨rfl, rfl⟩))
        go_ret
        exact ⟨by rw [hall.out, hb, hk]; rfl, HB0.out⟩
/-- The parts of a machine but its cycles. -/
def formB (x : Mch) : Bool := memB x.rs x.rows x.bank && (inB x.a 0 255 && (inB x.pc 0 1023 && (decide (x.bs.length ≤ 8) && x.bs.all fun z => inB z 0 1023)))
def machB (x : Mch) : Bool := formB x && inB x.cyc 0 1000000000
theorem backs_bad {xs : List Int} {k : Nat} (hk : k < xs.length) (h : inB (xs.getD k 0) 0 1023 = false) : (xs.all fun z => inB z 0 1023) = false := by
  rw [List.getD_eq_getElem?_getD, List.getElem?_eq_getElem hk, Option.getD_some] at h
  simp only [List.all_eq_false]
  exact ⟨_, List.getElem_mem hk, by rw [h]; simp⟩
theorem backs_take {xs : List Int} {k : Nat} (hk : k < xs.length) (h : ((xs.take k).all fun z => inB z 0 1023) = true) (h2 : inB (xs.getD k 0) 0 1023 = true) : ((xs.take (k + 1)).all fun z => inB z 0 1023) = true := by
  rw [List.take_add_one, List.getElem?_eq_getElem hk, List.all_append, h]
  rw [List.getD_eq_getElem?_getD, List.getElem?_eq_getElem hk, Option.getD_some] at h2
  simp [h2]
set_option maxRecDepth 4000 in
set_option maxHeartbeats 2000000 in
theorem machineFormed_any (x : Mch) (b : Nat) (w : World) (h : MRd w x) (hx : MBox w b x) :
    Calls Try.prog 54 #[.pointer (some ⟨b, 0, none⟩)] w fun e w' => e = .returned (.bool (formB x)) ∧ Below w.heap.size w w' := by
  have hbl := h.back.len
  have hbn := h.hb
  have HX := Lib.hid h
  have BX := Lib.hid hx
  obtain ⟨⟨c0, c1, c2⟩, -, -, -, -, -, -⟩ := hx.all
  clear h hx
  have ha := trivial
  have hp := trivial
  cases hm : memB x.rs x.rows x.bank
  · replace hbl := Lib.hid hbl
    have hbad := Lib.hid (show formB x = false by unfold formB; simp [hm])
    rw [hbad.out]
    go_enter Try.func54, Try.ntmps54
    go_wp2_with (first | (go_at_call 74; refine (memoryValid_impl _ _ _ _ _ _ _ _ _ _ HX.out.m).mono ?_; rintro e w5 ⟨rfl, b5⟩; rw [hm]; obtain ⟨⟨-, -, -⟩, c3, c4, c5, c6, c7, c8⟩ := (BX.out.below b5).all; replace b5 := Lib.hid b5) | (go_at_call 63; refine (isByte_any _ _).mono ?_; rintro e w' ⟨rfl, rfl⟩; rw [ha]) | (go_at_call 30; refine (within_any _ _ _ _).mono ?_; rintro e w' ⟨rfl, rfl⟩; rw [hp]))
    go_ret
    exact ⟨rfl, b5.out⟩
  cases ha : inB x.a 0 255
  · replace hbl := Lib.hid hbl
    have hbad := Lib.hid (show formB x = false by unfold formB; simp [ha])
    rw [hbad.out]
    go_enter Try.func54, Try.ntmps54
    go_wp2_with (first | (go_at_call 74; refine (memoryValid_impl _ _ _ _ _ _ _ _ _ _ HX.out.m).mono ?_; rintro e w5 ⟨rfl, b5⟩; rw [hm]; obtain ⟨⟨-, -, -⟩, c3, c4, c5, c6, c7, c8⟩ := (BX.out.below b5).all; replace b5 := Lib.hid b5) | (go_at_call 63; refine (isByte_any _ _).mono ?_; rintro e w' ⟨rfl, rfl⟩; rw [ha]) | (go_at_call 30; refine (within_any _ _ _ _).mono ?_; rintro e w' ⟨rfl, rfl⟩; rw [hp]))
    go_ret
    exact ⟨rfl, b5.out⟩
  cases hp : inB x.pc 0 1023
  · replace hbl := Lib.hid hbl
    have hbad := Lib.hid (show formB x = false by unfold formB; simp [hp])
    rw [hbad.out]
    go_enter Try.func54, Try.ntmps54
    go_wp2_with (first | (go_at_call 74; refine (memoryValid_impl _ _ _ _ _ _ _ _ _ _ HX.out.m).mono ?_; rintro e w5 ⟨rfl, b5⟩; rw [hm]; obtain ⟨⟨-, -, -⟩, c3, c4, c5, c6, c7, c8⟩ := (BX.out.below b5).all; replace b5 := Lib.hid b5) | (go_at_call 63; refine (isByte_any _ _).mono ?_; rintro e w' ⟨rfl, rfl⟩; rw [ha]) | (go_at_call 30; refine (within_any _ _ _ _).mono ?_; rintro e w' ⟨rfl, rfl⟩; rw [hp]))
    go_ret
    exact ⟨rfl, b5.out⟩
  by_cases h8 : x.bn ≤ 8
  · have h8' : ¬ ((x.bn : Int) > 8) := by omega
    have hres : formB x = x.bs.all fun z => inB z 0 1023 := by unfold formB; rw [hm, ha, hp, decide_eq_true (show x.bs.length ≤ 8 by omega)]; rfl
    rw [hres]
    clear hres
    go_enter Try.func54, Try.ntmps54
    go_wp2_with (first | (go_at_call 74; refine (memoryValid_impl _ _ _ _ _ _ _ _ _ _ HX.out.m).mono ?_; rintro e w5 ⟨rfl, b5⟩; rw [hm]; obtain ⟨⟨-, -, -⟩, c3, c4, c5, c6, c7, c8⟩ := (BX.out.below b5).all; replace b5 := Lib.hid b5) | (go_at_call 63; refine (isByte_any _ _).mono ?_; rintro e w' ⟨rfl, rfl⟩; rw [ha]) | (go_at_call 30; refine (within_any _ _ _ _).mono ?_; rintro e w' ⟨rfl, rfl⟩; rw [hp]))
    replace HX := Lib.hid (HX.out.below b5.out)
    clear c0 c1 c2 c3 c4 c5 c7 c8 hm ha hp
    go_loop [40] (fun i => ∃ k : Nat, k ≤ x.bn ∧ i = .int .i64 k ∧ ((x.bs.take k).all fun z => inB z 0 1023) = true) (fun i => x.bn - (intOf i).toNat)
    case atStart => exact ⟨0, Nat.zero_le _, rfl, rfl⟩
    case round =>
      obtain ⟨k, hk, rfl, hall⟩ := hrel
      by_cases hlt : k < x.bn
      · obtain ⟨ad, eA, hb1, hc⟩ := HX.out.back.at_ hlt
        have q0 : (0 : Int) ≤ (k : Int) := by omega
        have q1 : (k : Int) < (x.bn : Int) := by omega
        have eg : x.bs.getD k 0 = x.bs[k]'(by omega) := by rw [List.getD_eq_getElem?_getD, List.getElem?_eq_getElem (by omega), Option.getD_some]
        have hgood := Lib.hid (backs_take (k := k) (by omega) hall)
        have hbad := Lib.hid (backs_bad (k := k) (xs := x.bs) (by omega))
        rw [eg] at hgood hbad
        generalize x.bs[k]'(by omega) = z at hgood hbad hc
        rw [eA] at c6
        clear hall eg
        replace eA := Lib.hid eA
        replace hbl := Lib.hid hbl
        cases hz : inB z 0 1023
        · (rw [eA.out]; go_wp2_with (go_at_call 30; refine (within_any _ _ _ _).mono ?_; rintro e w' ⟨rfl, rfl⟩; rw [hz]))
          go_ret
          exact ⟨by rw [hbad.out hz]; rfl, b5.out⟩
        · (rw [eA.out]; go_wp2_with (go_at_call 30; refine (within_any _ _ _ _).mono ?_; rintro e w' ⟨rfl, rfl⟩; rw [hz]))
          go_round
          case rel => exact ⟨k + 1, by omega, by go_num, hgood.out hz⟩
          case measure => simp [intOf]; omega
      · obtain rfl : k = x.bn := by omega
        rw [List.take_of_length_le (by omega)] at hall
        replace hall := Lib.hid hall
        go_wp2_with fail
        go_ret
        exact ⟨by rw [hall.out]; rfl, b5.out⟩
  · have h8' : ((x.bn : Int) > 8) := by omega
    have h9 : ¬ x.bs.length ≤ 8 := by omega
    replace hbl := Lib.hid hbl
    have hbad := Lib.hid (show formB x = false by unfold formB; simp [h9])
    rw [hbad.out]
    go_enter Try.func54, Try.ntmps54
    go_wp2_with (first | (go_at_call 74; refine (memoryValid_impl _ _ _ _ _ _ _ _ _ _ HX.out.m).mono ?_; rintro e w5 ⟨rfl, b5⟩; rw [hm]; obtain ⟨⟨-, -, -⟩, c3, c4, c5, c6, c7, c8⟩ := (BX.out.below b5).all; replace b5 := Lib.hid b5) | (go_at_call 63; refine (isByte_any _ _).mono ?_; rintro e w' ⟨rfl, rfl⟩; rw [ha]) | (go_at_call 30; refine (within_any _ _ _ _).mono ?_; rintro e w' ⟨rfl, rfl⟩; rw [hp]))
    go_ret
    exact ⟨rfl, b5.out⟩
set_option maxRecDepth 4000 in
set_option maxHeartbeats 1000000 in
theorem machineValid_impl (x : Mch) (w : World) (h : MRd w x) :
    Calls Try.prog 29 #[x.val] w fun e w' => e = .returned (.bool (machB x)) ∧ Below w.heap.size w w' := by
  have hb0 : Below w.heap.size w (w.alloc (.cells x.cs 28)) := (Below.refl _ _).alloc (Nat.le_refl _) _
  have BX := Lib.hid (MBox.new w x 28)
  have HX := Lib.hid (h.below hb0)
  have HB0 := Lib.hid hb0
  clear h hb0
  unfold Mch.cs at *
  unfold Mch.val Mch.cs machB
  cases hf : formB x
  · go_enter Try.func29, Try.ntmps29
    go_wp2_with (go_at_call 54; refine (machineFormed_any x _ _ HX.out BX.out).mono ?_; rintro e w5 ⟨rfl, b5⟩; rw [hf]; replace b5 := Lib.hid b5)
    go_ret
    exact ⟨rfl, below_step HB0.out b5.out HB0.out.size⟩
  · go_enter Try.func29, Try.ntmps29
    go_wp2_with (first | (go_at_call 54; refine (machineFormed_any x _ _ HX.out BX.out).mono ?_; rintro e w5 ⟨rfl, b5⟩; rw [hf]; have c8 := (BX.out.below b5).c8; replace b5 := Lib.hid b5) | (go_at_call 30; refine (within_any _ _ _ _).mono ?_; rintro e w' ⟨rfl, rfl⟩))
    go_ret
    exact ⟨rfl, below_step HB0.out b5.out HB0.out.size⟩
theorem machB_eq (x : Mch) : machB x = ((x.bs.all fun z => inB z 0 1023) && (memB x.rs x.rows x.bank && (inB x.a 0 255 && (inB x.pc 0 1023 && (decide (x.bs.length ≤ 8) && inB x.cyc 0 1000000000))))) := by
  unfold machB formB
  cases memB x.rs x.rows x.bank <;> cases inB x.a 0 255 <;> cases inB x.pc 0 1023 <;> cases decide (x.bs.length ≤ 8) <;> cases (x.bs.all fun z => inB z 0 1023) <;> simp
set_option maxRecDepth 4000 in
set_option maxHeartbeats 2000000 in
theorem machineValid_spec (x : Mch) (w : World) (h : MRd w x) :
    Calls Try.prog 11 #[x.val] w fun e w' => e = .returned (.bool (machB x)) ∧ Below w.heap.size w w' := by
  have hb0 : Below w.heap.size w (w.alloc (.cells x.cs 28)) := (Below.refl _ _).alloc (Nat.le_refl _) _
  have BX := Lib.hid (MBox.new w x 28)
  have HX := Lib.hid (h.below hb0)
  have HB0 := Lib.hid hb0
  have hbl := h.back.len
  have hbn := h.hb
  clear h hb0
  unfold Mch.cs at *
  unfold Mch.val Mch.cs
  rw [machB_eq]
  obtain ⟨W0, hW0⟩ : ∃ W0, W0 = w.alloc (.cells #[.slice x.A x.n x.c, .slice x.R x.rn x.rc, .int .i64 x.bank, .int .i64 x.a, .int .i64 x.pc, .bool x.cy, .slice x.B x.bn x.bc, .bool x.st, .int .i64 x.cyc] 28) := ⟨_, rfl⟩
  rw [← hW0] at BX HX HB0
  replace hW0 := Lib.hid hW0
  have c6 := BX.out.c6
  go_enter Try.func11, Try.ntmps11
  go_wp2_with fail
  rw [← hW0.out]
  go_loop [3] (fun i => ∃ k : Nat, k ≤ x.bn ∧ i = .int .i64 k ∧ ((x.bs.take k).all fun z => inB z 0 1023) = true) (fun i => x.bn - (intOf i).toNat)
  case atStart => exact ⟨0, Nat.zero_le _, rfl, rfl⟩
  case round =>
    obtain ⟨k, hk, rfl, hall⟩ := hrel
    by_cases hlt : k < x.bn
    · obtain ⟨ad, eA, hb1, hc⟩ := HX.out.back.at_ hlt
      have q0 : (0 : Int) ≤ (k : Int) := by omega
      have q1 : (k : Int) < (x.bn : Int) := by omega
      have eg : x.bs.getD k 0 = x.bs[k]'(by omega) := by rw [List.getD_eq_getElem?_getD, List.getElem?_eq_getElem (by omega), Option.getD_some]
      have hgood := Lib.hid (backs_take (k := k) (by omega) hall)
      have hbad := Lib.hid (backs_bad (k := k) (xs := x.bs) (by omega))
      rw [eg] at hgood hbad
      generalize x.bs[k]'(by omega) = z at hgood hbad hc
      rw [eA] at c6
      clear hall eg
      replace eA := Lib.hid eA
      replace hbl := Lib.hid hbl
      cases hz : inB z 0 1023
      · (rw [eA.out]; go_wp2_with (go_at_call 33; refine (l1In_any _ _ _ _).mono ?_; rintro e w' ⟨rfl, rfl⟩; rw [hz]))
        go_ret
        exact ⟨by rw [hbad.out hz]; rfl, HB0.out⟩
      · (rw [eA.out]; go_wp2_with (go_at_call 33; refine (l1In_any _ _ _ _).mono ?_; rintro e w' ⟨rfl, rfl⟩; rw [hz]))
        go_round
        case rel => exact ⟨k + 1, by omega, by go_num, hgood.out hz⟩
        case measure => simp [intOf]; omega
    · obtain rfl : k = x.bn := by omega
      rw [List.take_of_length_le (by omega)] at hall
      have hbl8 : x.bs.length = x.bn := hbl
      replace hall := Lib.hid hall
      obtain ⟨⟨c0, c1, c2⟩, -⟩ := BX.out.all
      have ha := trivial
      have hp := trivial
      cases hm : memB x.rs x.rows x.bank
      · replace hbl8 := Lib.hid hbl8
        replace hbl := Lib.hid hbl
        go_wp2_with (first | (go_at_call 36; refine (memoryValid_spec _ _ _ _ _ _ _ _ _ _ HX.out.m).mono ?_; rintro e w5 ⟨rfl, b5⟩; rw [hm]; obtain ⟨⟨-, -, -⟩, c3, c4, c5, c6, c7, c8⟩ := (BX.out.below b5).all; replace b5 := Lib.hid b5) | (go_at_call 37; refine (l1Byte_any _ _).mono ?_; rintro e w' ⟨rfl, rfl⟩; rw [ha]) | (go_at_call 33; with_reducible refine (l1In_any x.pc 0 1023 _).mono ?_; rintro e w' ⟨rfl, rfl⟩; rw [hp]) | (go_at_call 33; with_reducible refine (l1In_any x.cyc 0 1000000000 _).mono ?_; rintro e w' ⟨rfl, rfl⟩))
        go_ret
        exact ⟨by simp only [hall.out, hm]; rfl, below_step HB0.out b5.out HB0.out.size⟩
      cases ha : inB x.a 0 255
      · replace hbl8 := Lib.hid hbl8
        replace hbl := Lib.hid hbl
        go_wp2_with (first | (go_at_call 36; refine (memoryValid_spec _ _ _ _ _ _ _ _ _ _ HX.out.m).mono ?_; rintro e w5 ⟨rfl, b5⟩; rw [hm]; obtain ⟨⟨-, -, -⟩, c3, c4, c5, c6, c7, c8⟩ := (BX.out.below b5).all; replace b5 := Lib.hid b5) | (go_at_call 37; refine (l1Byte_any _ _).mono ?_; rintro e w' ⟨rfl, rfl⟩; rw [ha]) | (go_at_call 33; with_reducible refine (l1In_any x.pc 0 1023 _).mono ?_; rintro e w' ⟨rfl, rfl⟩; rw [hp]) | (go_at_call 33; with_reducible refine (l1In_any x.cyc 0 1000000000 _).mono ?_; rintro e w' ⟨rfl, rfl⟩))
        go_ret
        exact ⟨by simp only [hall.out, hm, ha]; rfl, below_step HB0.out b5.out HB0.out.size⟩
      cases hp : inB x.pc 0 1023
      · replace hbl8 := Lib.hid hbl8
        replace hbl := Lib.hid hbl
        go_wp2_with (first | (go_at_call 36; refine (memoryValid_spec _ _ _ _ _ _ _ _ _ _ HX.out.m).mono ?_; rintro e w5 ⟨rfl, b5⟩; rw [hm]; obtain ⟨⟨-, -, -⟩, c3, c4, c5, c6, c7, c8⟩ := (BX.out.below b5).all; replace b5 := Lib.hid b5) | (go_at_call 37; refine (l1Byte_any _ _).mono ?_; rintro e w' ⟨rfl, rfl⟩; rw [ha]) | (go_at_call 33; with_reducible refine (l1In_any x.pc 0 1023 _).mono ?_; rintro e w' ⟨rfl, rfl⟩; rw [hp]) | (go_at_call 33; with_reducible refine (l1In_any x.cyc 0 1000000000 _).mono ?_; rintro e w' ⟨rfl, rfl⟩))
        go_ret
        exact ⟨by simp only [hall.out, hm, ha, hp]; rfl, below_step HB0.out b5.out HB0.out.size⟩
      by_cases h8 : x.bn ≤ 8
      · have h9 : decide (x.bs.length ≤ 8) = true := decide_eq_true (by omega)
        have h8' : (x.bn : Int) ≤ 8 := by omega
        replace h9 := Lib.hid h9
        replace hbl8 := Lib.hid hbl8
        replace hbl := Lib.hid hbl
        go_wp2_with (first | (go_at_call 36; refine (memoryValid_spec _ _ _ _ _ _ _ _ _ _ HX.out.m).mono ?_; rintro e w5 ⟨rfl, b5⟩; rw [hm]; obtain ⟨⟨-, -, -⟩, c3, c4, c5, c6, c7, c8⟩ := (BX.out.below b5).all; replace b5 := Lib.hid b5) | (go_at_call 37; refine (l1Byte_any _ _).mono ?_; rintro e w' ⟨rfl, rfl⟩; rw [ha]) | (go_at_call 33; with_reducible refine (l1In_any x.pc 0 1023 _).mono ?_; rintro e w' ⟨rfl, rfl⟩; rw [hp]) | (go_at_call 33; with_reducible refine (l1In_any x.cyc 0 1000000000 _).mono ?_; rintro e w' ⟨rfl, rfl⟩))
        go_ret
        exact ⟨by simp only [hall.out, hm, ha, hp, h9.out]; rfl, below_step HB0.out b5.out HB0.out.size⟩
      · have h9 : decide (x.bs.length ≤ 8) = false := decide_eq_false (by omega)
        have h8' : ¬ (x.bn : Int) ≤ 8 := by omega
        replace h9 := Lib.hid h9
        replace hbl8 := Lib.hid hbl8
        replace hbl := Lib.hid hbl
        go_wp2_with (first | (go_at_call 36; refine (memoryValid_spec _ _ _ _ _ _ _ _ _ _ HX.out.m).mono ?_; rintro e w5 ⟨rfl, b5⟩; rw [hm]; obtain ⟨⟨-, -, -⟩, c3, c4, c5, c6, c7, c8⟩ := (BX.out.below b5).all; replace b5 := Lib.hid b5) | (go_at_call 37; refine (l1Byte_any _ _).mono ?_; rintro e w' ⟨rfl, rfl⟩; rw [ha]) | (go_at_call 33; with_reducible refine (l1In_any x.pc 0 1023 _).mono ?_; rintro e w' ⟨rfl, rfl⟩; rw [hp]) | (go_at_call 33; with_reducible refine (l1In_any x.cyc 0 1000000000 _).mono ?_; rintro e w' ⟨rfl, rfl⟩))
        go_ret
        exact ⟨by simp only [hall.out, hm, ha, hp, h9.out]; rfl, below_step HB0.out b5.out HB0.out.size⟩
end Go.Proofs.Ytgedfcccflobmaa
