/-
  Machines in the laws: sizes, copies, comparisons of equal ones, marks. No condition but that lengths stay in range.
-/
import Derived.Test.YtgedfcccflobmaaMac
import Derived.Test.YtgedfcccflobmaaKee
namespace Go.Proofs.Ytgedfcccflobmaa
open Go.RowKit
set_option linter.unusedVariables false
set_option linter.unusedSimpArgs false
theorem touchM_set {lo hi : Nat} {a w : World} {p : Addr} (h : Touch lo hi a w) (hp : lo ≤ p.block ∧ p.block < hi) (v : Value) : Touch lo hi a (w.setCell p v) :=
  ⟨h.os, h.tape, h.output, by simpa [World.setCell] using h.size, fun k hk ho => (Below.heap_setCell w p v k (by omega)).trans (h.block k hk ho)⟩
theorem blkM3 (w : World) (a b c : Array Value) (t1 t2 t3 : TypeId) : Blk (((w.alloc (.cells a t1)).alloc (.cells b t2)).alloc (.cells c t3)) w.heap.size t1 a ∧ Blk (((w.alloc (.cells a t1)).alloc (.cells b t2)).alloc (.cells c t3)) (w.heap.size + 1) t2 b ∧ Blk (((w.alloc (.cells a t1)).alloc (.cells b t2)).alloc (.cells c t3)) (w.heap.size + 2) t3 c := by
  refine ⟨((Blk.new w t1 a).alloc _).alloc _, ?_, ?_⟩
  · have h := (Blk.new (w.alloc (.cells a t1)) t2 b).alloc (.cells c t3)
    rw [show (w.alloc (.cells a t1)).heap.size = w.heap.size + 1 by simp] at h
    exact h
  · have h := Blk.new ((w.alloc (.cells a t1)).alloc (.cells b t2)) t3 c
    rw [show ((w.alloc (.cells a t1)).alloc (.cells b t2)).heap.size = w.heap.size + 2 by simp] at h
    exact h
/-- A machine as it came in: lengths below the largest. -/
structure MRd0 (w : World) (x : Mch) : Prop where
  ram : Ints w w.heap.size x.A x.n x.rs
  rom : GRd w x.R x.rn x.rows
  back : Ints w w.heap.size x.B x.bn x.bs
  hn : x.n ≤ 9223372036854775807
  hr : x.rn ≤ 9223372036854775807
  hd : ∀ k, k < x.rn → (x.rows.getD k []).length ≤ 9223372036854775807
  hb : x.bn ≤ 9223372036854775807
/-- A memory of the call's own: the two zones in which it lies. -/
structure MemOwn (w : World) (lo h1 hi : Nat) (A : Option Addr) (n c : Nat) (rs : List Int) (R : Option Addr) (rn rc : Nat) (rows : List (List Int)) (vs : List Value) : Prop where
  ram : ZI lo h1 A n c rs w
  rom : GOwn w h1 hi R rc rows vs
  rl : rn = rows.length
  o1 : lo ≤ h1
  o2 : h1 ≤ hi
/-- A machine of the call's own: the three zones in which it lies. -/
structure MOwn (w : World) (lo h1 h2 hi : Nat) (x : Mch) (vs : List Value) : Prop where
  m : MemOwn w lo h1 h2 x.A x.n x.c x.rs x.R x.rn x.rc x.rows vs
  back : ZI h2 hi x.B x.bn x.bc x.bs w
  o3 : h2 ≤ hi
theorem local_MemOwn (lo h1 hi : Nat) (A : Option Addr) (n c : Nat) (rs : List Int) (R : Option Addr) (rn rc : Nat) (rows : List (List Int)) (vs : List Value) : Local lo hi (fun w => MemOwn w lo h1 hi A n c rs R rn rc rows vs) := fun w w' p hs hk =>
  ⟨local_ZI _ _ _ _ _ _ w w' p.ram hs fun k k1 k2 => hk k k1 (Nat.lt_of_lt_of_le k2 p.o2), local_ZG _ _ _ _ _ _ w w' p.rom hs fun k k1 k2 => hk k (Nat.le_trans p.o1 k1) k2, p.rl, p.o1, p.o2⟩
theorem local_MOwn (lo h1 h2 hi : Nat) (x : Mch) (vs : List Value) : Local lo hi (fun w => MOwn w lo h1 h2 hi x vs) := fun w w' p hs hk =>
  ⟨local_MemOwn _ _ _ _ _ _ _ _ _ _ _ _ w w' p.m hs fun k k1 k2 => hk k k1 (Nat.lt_of_lt_of_le k2 p.o3), local_ZI _ _ _ _ _ _ w w' p.back hs fun k k1 k2 => hk k (Nat.le_trans (Nat.le_trans p.m.o1 p.m.o2) k1) k2, p.o3⟩
theorem MemOwn.rd {w : World} {lo h1 hi n c rn rc : Nat} {A R : Option Addr} {rs : List Int} {rows : List (List Int)} {vs : List Value} (h : MemOwn w lo h1 hi A n c rs R rn rc rows vs) (hn : n ≤ 1000000000) (hr : rn ≤ 1000000000) (hd : ∀ k, k < rn → (rows.getD k []).length ≤ 1000000000) : MemRd w A n rs R rn rows :=
  ⟨own_ints h.ram.1, by rw [h.rl]; exact h.rom.rd, hn, hr, hd⟩
theorem MOwn.rd {w : World} {lo h1 h2 hi : Nat} {x : Mch} {vs : List Value} (h : MOwn w lo h1 h2 hi x vs) (hn : x.n ≤ 1000000000) (hr : x.rn ≤ 1000000000) (hd : ∀ k, k < x.rn → (x.rows.getD k []).length ≤ 1000000000) (hb : x.bn ≤ 1000000000) : MRd w x :=
  ⟨h.m.rd hn hr hd, own_ints h.back.1, hb⟩
theorem MemOwn.fin {w w' : World} {a lo lo3 h1 n c rn rc : Nat} {A R : Option Addr} {rs : List Int} {rows : List (List Int)} {vs : List Value} (h : MemOwn w lo3 h1 w.heap.size A n c rs R rn rc rows vs) (t : Touch a lo3 w w') (hs : w'.heap.size = w.heap.size) (ha : lo ≤ lo3) : MemOwn w' lo h1 w'.heap.size A n c rs R rn rc rows vs := by
  have q := local_MemOwn _ _ _ _ _ _ _ _ _ _ _ _ w w' h t.size fun k k1 k2 => t.block k k2 (.inr k1)
  rw [hs]
  exact ⟨⟨own_base q.ram.1 ha, q.ram.2⟩, q.rom, q.rl, Nat.le_trans ha q.o1, q.o2⟩
theorem MOwn.fin {w w' : World} {a lo lo3 h1 h2 : Nat} {x : Mch} {vs : List Value} (h : MOwn w lo3 h1 h2 w.heap.size x vs) (t : Touch a lo3 w w') (hs : w'.heap.size = w.heap.size) (ha : lo ≤ lo3) : MOwn w' lo h1 h2 w'.heap.size x vs := by
  have q := local_MOwn _ _ _ _ _ _ w w' h t.size fun k k1 k2 => t.block k k2 (.inr k1)
  rw [hs]
  exact ⟨⟨⟨own_base q.m.ram.1 ha, q.m.ram.2⟩, q.m.rom, q.m.rl, Nat.le_trans ha q.m.o1, q.m.o2⟩, q.back, q.o3⟩
/-- The same machine, at other places. -/
def Mch.at (x : Mch) (A : Option Addr) (c : Nat) (R : Option Addr) (rc : Nat) (B : Option Addr) (bc : Nat) : Mch := { x with A := A, c := c, R := R, rc := rc, B := B, bc := bc }
def Msame (x y : Mch) : Prop := ∃ A c R rc B bc, y = x.at A c R rc B bc
theorem Msame.nums {x y : Mch} (h : Msame x y) : y.n = x.n ∧ y.rn = x.rn ∧ y.bn = x.bn ∧ y.rs = x.rs ∧ y.rows = x.rows ∧ y.bs = x.bs ∧ y.bank = x.bank ∧ y.a = x.a ∧ y.pc = x.pc ∧ y.cy = x.cy ∧ y.st = x.st ∧ y.cyc = x.cyc := by
  obtain ⟨A, c, R, rc, B, bc, rfl⟩ := h
  exact ⟨rfl, rfl, rfl, rfl, rfl, rfl, rfl, rfl, rfl, rfl, rfl, rfl⟩
/-- What szMachine says: too much, or that all lengths are small. -/
def SzM (l : Int) (x : Mch) (v : Int) : Prop := v < 0 ∨ (0 ≤ v ∧ v ≤ l ∧ (x.n : Int) ≤ l ∧ (x.rows.length : Int) ≤ l ∧ (sumR x.rows : Int) ≤ l ∧ (x.bn : Int) ≤ l)
def SzMem (l : Int) (n : Nat) (rows : List (List Int)) (v : Int) : Prop := v < 0 ∨ (0 ≤ v ∧ v ≤ l ∧ (n : Int) ≤ l ∧ (rows.length : Int) ≤ l ∧ (sumR rows : Int) ≤ l)
theorem szG_le : ∀ (os : List (List Int)) (l : Int), 0 ≤ l → szG l os ≤ l
  | [], l, h => by simp [szG]
  | t :: os, l, h => by
    unfold szG
    split
    · omega
    · have := szG_le os (l - t.length) (by omega); omega
set_option maxHeartbeats 1000000 in
theorem szMemory_any (A : Option Addr) (n c : Nat) (rs : List Int) (R : Option Addr) (rn rc : Nat) (rows : List (List Int)) (bank l : Int) (w : World) (hr : GRd w R rn rows) (h0 : 0 ≤ l) (h1 : l ≤ 1048576) (hn : n ≤ 9223372036854775807) (hrn : rn ≤ 9223372036854775807) (hd : ∀ k, k < rn → (rows.getD k []).length ≤ 9223372036854775807) :
    Calls Try.prog 39 #[.agg #[.slice A n c, .slice R rn rc, .int .i64 bank], .int .i64 l] w fun e w' => ∃ v, e = .returned (.int .i64 v) ∧ SzMem l n rows v ∧ Below w.heap.size w w' := by
  have hb0 : Below w.heap.size w (w.alloc (.cells #[.slice A n c, .slice R rn rc, .int .i64 bank] 37)) := (Below.refl _ _).alloc (Nat.le_refl _) _
  have HR := Lib.hid (hr.below hb0)
  have hrl := Lib.hid hr.1
  have HB0 := Lib.hid hb0
  have HD := Lib.hid hd
  clear hb0 hr hd
  by_cases hq : l - (n : Int) < 0
  · have hi := Lib.hid (show (if l - (n : Int) < 0 then (-1 : Int) else l - n) = -1 from if_pos hq)
    go_enter Try.func39, Try.ntmps39
    go_wp2_with (go_at_call 40; refine (szIntS_any A n c l _ h0 (by omega) hn).mono ?_; rintro e w' ⟨rfl, rfl⟩; rw [hi.out])
    go_ret
    exact ⟨_, rfl, .inl (by omega), HB0.out⟩
  have hi := Lib.hid (show (if l - (n : Int) < 0 then (-1 : Int) else l - n) = l - n from if_neg hq)
  obtain ⟨v, hv⟩ : ∃ v, szGR (l - n) rows = v := ⟨_, rfl⟩
  have HV := Lib.hid hv
  by_cases hv0 : v < 0
  · clear hv
    go_enter Try.func39, Try.ntmps39
    go_wp2_with (first | (go_at_call 40; refine (szIntS_any A n c l _ h0 (by omega) hn).mono ?_; rintro e w' ⟨rfl, rfl⟩; rw [hi.out]) | (go_at_call 64; refine (szIntSS_any R rn rc rows (l - n) _ HR.out (by omega) (by omega) hrn HD.out).mono ?_; rintro e w5 ⟨rfl, b5⟩; rw [HV.out]; replace b5 := Lib.hid b5))
    go_ret
    exact ⟨_, rfl, .inl (by omega), below_step HB0.out b5.out HB0.out.size⟩
  · have hok := szGR_ok (os := rows) (l := l - n) (by rw [hv]; exact hv0)
    have hle : v ≤ l - n := by
      rw [← hv]
      unfold szGR
      split
      · omega
      · have := szG_le rows (l - n - rows.length) (by omega); omega
    clear hv
    go_enter Try.func39, Try.ntmps39
    go_wp2_with (first | (go_at_call 40; refine (szIntS_any A n c l _ h0 (by omega) hn).mono ?_; rintro e w' ⟨rfl, rfl⟩; rw [hi.out]) | (go_at_call 64; refine (szIntSS_any R rn rc rows (l - n) _ HR.out (by omega) (by omega) hrn HD.out).mono ?_; rintro e w5 ⟨rfl, b5⟩; rw [HV.out]; replace b5 := Lib.hid b5))
    go_ret
    exact ⟨_, rfl, .inr (by omega), below_step HB0.out b5.out HB0.out.size⟩
set_option maxHeartbeats 1000000 in
theorem szMachine_any (x : Mch) (l : Int) (w : World) (h : MRd0 w x) (h0 : 0 ≤ l) (h1 : l ≤ 1048576) :
    Calls Try.prog 14 #[x.val, .int .i64 l] w fun e w' => ∃ v, e = .returned (.int .i64 v) ∧ SzM l x v ∧ Below w.heap.size w w' := by
  have hb0 : Below w.heap.size w (w.alloc (.cells x.cs 39)) := (Below.refl _ _).alloc (Nat.le_refl _) _
  have BX := Lib.hid (MBox.new w x 39)
  have HR := Lib.hid (h.rom.below hb0)
  have HB0 := Lib.hid hb0
  have hn := h.hn
  have hrn := h.hr
  have hbn := h.hb
  have HD := Lib.hid h.hd
  clear h hb0
  unfold Mch.cs at *
  unfold Mch.val Mch.cs
  go_enter Try.func14, Try.ntmps14
  go_wp2_with fail
  refine (szMemory_any x.A x.n x.c x.rs x.R x.rn x.rc x.rows x.bank l _ HR.out h0 h1 hn hrn HD.out).mono ?_
  rintro e w5 ⟨v, rfl, hv, b5⟩
  have c6 := (BX.out.below b5).c6
  replace b5 := Lib.hid b5
  have HV := Lib.hid hv
  rcases hv with hv | ⟨v0, v1, v2, v3, v4⟩
  · go_wp2_with fail
    go_ret
    exact ⟨_, rfl, .inl (by omega), below_step HB0.out b5.out HB0.out.size⟩
  · by_cases hq : v - (x.bn : Int) < 0
    · have hi := Lib.hid (show (if v - (x.bn : Int) < 0 then (-1 : Int) else v - x.bn) = -1 from if_pos hq)
      go_wp2_with (go_at_call 40; refine (szIntS_any x.B x.bn x.bc v _ v0 (by omega) hbn).mono ?_; rintro e w' ⟨rfl, rfl⟩; rw [hi.out])
      go_ret
      exact ⟨_, rfl, .inl (by omega), below_step HB0.out b5.out HB0.out.size⟩
    · have hi := Lib.hid (show (if v - (x.bn : Int) < 0 then (-1 : Int) else v - x.bn) = v - x.bn from if_neg hq)
      go_wp2_with (go_at_call 40; refine (szIntS_any x.B x.bn x.bc v _ v0 (by omega) hbn).mono ?_; rintro e w' ⟨rfl, rfl⟩; rw [hi.out])
      go_ret
      exact ⟨_, rfl, .inr ⟨by omega, by omega, by omega, by omega, by omega, by omega⟩, below_step HB0.out b5.out HB0.out.size⟩
def memZ : Array Value := #[.slice none 0 0, .slice none 0 0, .int .i64 0]
set_option maxRecDepth 4000 in
set_option maxHeartbeats 2000000 in
theorem toMemory_any (A : Option Addr) (n c : Nat) (rs : List Int) (R : Option Addr) (rn rc : Nat) (rows : List (List Int)) (bank : Int) (w : World) (h : MemRd w A n rs R rn rows) :
    Calls Try.prog 41 #[.agg #[.slice A n c, .slice R rn rc, .int .i64 bank]] w fun e w' => ∃ A1 c1 R1 rc1 vs h1, e = .returned (.agg #[.slice A1 n c1, .slice R1 rn rc1, .int .i64 bank]) ∧ MemOwn w' w.heap.size h1 w'.heap.size A1 n c1 rs R1 rn rc1 rows vs ∧ Below w.heap.size w w' := by
  have h3 := blkM3 w #[.slice A n c, .slice R rn rc, .int .i64 bank] memZ memZ 37 26 26
  have hb0 : Below w.heap.size w (((w.alloc (.cells #[.slice A n c, .slice R rn rc, .int .i64 bank] 37)).alloc (.cells memZ 26)).alloc (.cells memZ 26)) := (((Below.refl _ _).alloc (Nat.le_refl _) _).alloc (by simp) _).alloc (by simp; omega) _
  have hs0 : (((w.alloc (.cells #[.slice A n c, .slice R rn rc, .int .i64 bank] 37)).alloc (.cells memZ 26)).alloc (.cells memZ 26)).heap.size = w.heap.size + 3 := by simp
  obtain ⟨h31, h32, h33⟩ := h3
  have H1 := Lib.hid h31
  have H2 := Lib.hid h32
  have H3 := Lib.hid h33
  have HB0 := Lib.hid hb0
  have HS0 := Lib.hid hs0
  have HM := Lib.hid (h.below hb0)
  have HML := Lib.hid h
  have hnl := Lib.hid h.ram.len
  have hrl := Lib.hid h.rom.1
  have hn := h.hn
  have hr := h.hr
  clear h31 h32 h33 hb0 h hs0
  unfold memZ at *
  go_enter Try.func41, Try.ntmps41
  go_wp2_with fail
  refine (toIntS_any A n c rs _ HM.out.ram hn).mono ?_
  rw [show ∀ W, Gives W rs = fun e w' => ∃ A1 c1, e = .returned (.slice A1 n c1) ∧ w'.ownsRow W.heap.size 3 1 (.slice A1 n c1) n (iv rs) ∧ Below W.heap.size W w' from fun W => by unfold Gives; rw [hnl.out]]
  rintro e w5 ⟨A1, c1, rfl, o5, b5⟩
  have z5 := b5.size
  rw [HS0.out] at o5 z5
  have B1 := H1.out.below b5 (by simp; omega)
  have B2 := H2.out.below b5 (by simp)
  have B3 := H3.out.below b5 (by simp)
  have p0 := B1.cell 0
  have p1 := B1.cell 1
  have p2 := B1.cell 2
  have d0 : w5.cell? ⟨w.heap.size + 1 + 1, 0, none⟩ = some (.slice none 0 0) := B3.cell 0
  have e0 : w5.frozen? ⟨w.heap.size + 1 + 1, 0, none⟩ = false := B3.frozen 0
  simp only [List.getElem?_toArray, List.getElem?_cons_succ, List.getElem?_cons_zero] at p0 p1 p2
  have s3 := B3.set_ 0 (.slice A1 n c1)
  have s1 := B1.far (p := ⟨w.heap.size + 2, 0, none⟩) (by show w.heap.size ≠ w.heap.size + 2; omega) (.slice A1 n c1)
  have s2 := B2.far (p := ⟨w.heap.size + 2, 0, none⟩) (by show w.heap.size + 1 ≠ w.heap.size + 2; omega) (.slice A1 n c1)
  have t5 := touchM_set (lo := w.heap.size) (hi := w.heap.size + 3) (Touch.refl w.heap.size (w.heap.size + 3) w5) (p := ⟨w.heap.size + 2, 0, none⟩) (by show w.heap.size ≤ w.heap.size + 2 ∧ w.heap.size + 2 < w.heap.size + 3; omega) (.slice A1 n c1)
  have O5 := Lib.hid (own_same o5 fun g hg => t5.block g (o5.lt g hg).2 (.inr (o5.lt g hg).1))
  have hO5 := Lib.hid (show ∀ k, (Value.slice A1 n c1).ownBlock = some k → k < w5.heap.size from fun k hk => (o5.lt k hk).2)
  have S1 := Lib.hid s1
  have S2 := Lib.hid s2
  have S3 := Lib.hid s3
  have HB5 := Lib.hid (below_step HB0.out b5 HB0.out.size)
  have HM5 := Lib.hid (HM.out.below b5)
  clear s1 s2 s3 t5 B1 B2 B3 b5 o5 p0 p2 H1 H2 H3 HM
  go_wp2_with fail
  have hb6 := (HB5.out).setCell (p := ⟨w.heap.size + 1 + 1, 0, none⟩) (by show w.heap.size ≤ w.heap.size + 1 + 1; omega) (.slice A1 n c1)
  have z6 : (w5.setCell ⟨w.heap.size + 1 + 1, 0, none⟩ (.slice A1 n c1)).heap.size = w5.heap.size := by simp [World.setCell]
  have b56 : Below w5.heap.size w5 w5 := Below.refl _ _
  refine (toIntSS_own R rn rc rows _ (HML.out.rom.below hb6) hr HML.out.hd).mono ?_
  rw [show ∀ W, GivesG W rows = fun e w' => ∃ A c vs, e = .returned (.slice A rn c) ∧ GOwn w' W.heap.size w'.heap.size A c rows vs ∧ Below W.heap.size W w' from fun W => by unfold GivesG; rw [hrl.out]]
  rintro e w7 ⟨R1, rc1, vs, rfl, o7, b7⟩
  rw [z6] at o7
  have z7 := b7.size
  rw [z6] at z7
  have B1 := S1.out.below b7 S1.out.lt
  have B2 := S2.out.below b7 S2.out.lt
  have B3 := S3.out.below b7 S3.out.lt
  have O6 := Lib.hid (own_below O5.out b7)
  have O7 := Lib.hid o7
  have hb7 := Lib.hid (below_step hb6 b7 hb6.size)
  have p2 := B1.cell 2
  have d0 : w7.cell? ⟨w.heap.size + 1 + 1, 0, none⟩ = some (.slice A1 n c1) := B3.cell 0
  have d1 : w7.cell? ⟨w.heap.size + 1 + 1, 1, none⟩ = some (.slice none 0 0) := B3.cell 1
  have d2 : w7.cell? ⟨w.heap.size + 1 + 1, 2, none⟩ = some (.int .i64 0) := B3.cell 2
  have e1 : w7.frozen? ⟨w.heap.size + 1 + 1, 1, none⟩ = false := B3.frozen 1
  have e2 : w7.frozen? ⟨w.heap.size + 1 + 1, 2, none⟩ = false := B3.frozen 2
  have g0 : w7.cell? ⟨w.heap.size + 1, 0, none⟩ = some (.slice none 0 0) := B2.cell 0
  have g1 : w7.cell? ⟨w.heap.size + 1, 1, none⟩ = some (.slice none 0 0) := B2.cell 1
  have g2 : w7.cell? ⟨w.heap.size + 1, 2, none⟩ = some (.int .i64 0) := B2.cell 2
  have k0 : w7.frozen? ⟨w.heap.size + 1, 0, none⟩ = false := B2.frozen 0
  have k1 : w7.frozen? ⟨w.heap.size + 1, 1, none⟩ = false := B2.frozen 1
  have k2 : w7.frozen? ⟨w.heap.size + 1, 2, none⟩ = false := B2.frozen 2
  simp only [List.getElem?_toArray, List.getElem?_cons_succ, List.getElem?_cons_zero] at p2
  clear B1 B2 B3 b7 S1 S2 S3 O5 hb6 o7
  go_wp2_with fail
  refine bodyPost_ret (v := .agg #[.slice A1 n c1, .slice R1 rn rc1, .int .i64 bank]) (by simp [results, Try.results41, go_sem, g0, g1, g2]) rfl ⟨A1, c1, R1, rc1, vs, w5.heap.size, rfl, ?_, ?_⟩
  · refine MemOwn.fin (a := w.heap.size) (lo3 := w.heap.size + 3) (w := w7) ⟨⟨O6.out, hO5.out⟩, O7.out, hrl.out.symm, z5, z7⟩ ?_ (by simp [World.setCell]) (by omega)
    repeat (refine touchM_set ?_ (And.intro (by dsimp only; omega) (by dsimp only; omega)) _)
    exact Touch.refl _ _ _
  · refine hb7.out.trans (Touch.to_below (lo := w.heap.size) (hi := w.heap.size + 3) ?_ (Nat.le_refl _) hb7.out.size)
    repeat (refine touchM_set ?_ (And.intro (by dsimp only; omega) (by dsimp only; omega)) _)
    exact Touch.refl _ _ _
/-- Cells of block b are set, one behind the other. -/
def setN (w : World) (b : Nat) : Nat → List Value → World
  | _, [] => w
  | k, v :: vs => setN (w.setCell ⟨b, k, none⟩ v) b (k + 1) vs
theorem setN_heap {b g : Nat} (h : g ≠ b) : ∀ (vs : List Value) (k : Nat) (w : World), (setN w b k vs).heap[g]? = w.heap[g]?
  | [], _, _ => rfl
  | v :: vs, k, w => (setN_heap h vs (k + 1) _).trans (Below.heap_setCell w ⟨b, k, none⟩ v g h)
theorem setN_size {b : Nat} : ∀ (vs : List Value) (k : Nat) (w : World), (setN w b k vs).heap.size = w.heap.size
  | [], _, _ => rfl
  | v :: vs, k, w => (setN_size vs (k + 1) _).trans (by simp [World.setCell])
theorem setN_below {b B : Nat} (hb : B ≤ b) : ∀ (vs : List Value) (k : Nat) (a w : World), Below B a w → Below B a (setN w b k vs)
  | [], _, _, _, h => h
  | v :: vs, k, a, w, h => setN_below hb vs (k + 1) a _ (h.setCell (p := ⟨b, k, none⟩) hb v)
theorem setN_far {b g : Nat} {t : TypeId} {cs : Array Value} {w : World} (h : Blk w g t cs) (hg : g ≠ b) (vs : List Value) (k : Nat) : Blk (setN w b k vs) g t cs := (setN_heap hg vs k w).trans h
def setA (cs : Array Value) : Nat → List Value → Array Value
  | _, [] => cs
  | k, v :: vs => setA (cs.setIfInBounds k v) (k + 1) vs
theorem setN_blk {b : Nat} {t : TypeId} : ∀ (vs : List Value) (k : Nat) (w : World) (cs : Array Value), Blk w b t cs → Blk (setN w b k vs) b t (setA cs k vs)
  | [], _, _, _, h => h
  | v :: vs, k, w, cs, h => setN_blk vs (k + 1) _ _ (h.set_ k v)
theorem setN_touch {b lo hi : Nat} (hb : lo ≤ b ∧ b < hi) : ∀ (vs : List Value) (k : Nat) (a w : World), Touch lo hi a w → Touch lo hi a (setN w b k vs)
  | [], _, _, _, h => h
  | v :: vs, k, a, w, h => setN_touch hb vs (k + 1) a _ (touchM_set (p := ⟨b, k, none⟩) h hb v)
def machZ : Array Value := #[.slice none 0 0, .slice none 0 0, .int .i64 0, .int .i64 0, .int .i64 0, .bool false, .slice none 0 0, .bool false, .int .i64 0]
set_option maxRecDepth 20000 in
set_option maxHeartbeats 4000000 in
theorem toMachine_any (x : Mch) (w : World) (h : MRd w x) :
    Calls Try.prog 15 #[x.val] w fun e w' => ∃ y vs h1 h2, e = .returned y.val ∧ Msame x y ∧ MOwn w' w.heap.size h1 h2 w'.heap.size y vs ∧ Below w.heap.size w w' := by
  have h3 := blkM3 w x.cs machZ machZ 39 28 28
  have hb0 : Below w.heap.size w (((w.alloc (.cells x.cs 39)).alloc (.cells machZ 28)).alloc (.cells machZ 28)) := (((Below.refl _ _).alloc (Nat.le_refl _) _).alloc (by simp) _).alloc (by simp; omega) _
  have hs0 : (((w.alloc (.cells x.cs 39)).alloc (.cells machZ 28)).alloc (.cells machZ 28)).heap.size = w.heap.size + 3 := by simp
  obtain ⟨h31, h32, h33⟩ := h3
  have H1 := Lib.hid h31
  have H2 := Lib.hid h32
  have H3 := Lib.hid h33
  have HB0 := Lib.hid hb0
  have HS0 := Lib.hid hs0
  have HM := Lib.hid (h.below hb0)
  have HML := Lib.hid h
  have hbl := Lib.hid h.back.len
  have hbn := h.hb
  clear h31 h32 h33 hb0 h hs0
  unfold machZ Mch.cs at *
  unfold Mch.val Mch.cs
  go_enter Try.func15, Try.ntmps15
  go_wp2_with fail
  refine (toMemory_any x.A x.n x.c x.rs x.R x.rn x.rc x.rows x.bank _ HM.out.m).mono ?_
  rintro e w5 ⟨A1, c1, R1, rc1, vs, h1, rfl, o5, b5⟩
  have z5 := b5.size
  rw [HS0.out] at o5 z5
  have B1 := H1.out.below b5 (by simp; omega)
  have B2 := H2.out.below b5 (by simp)
  have B3 := H3.out.below b5 (by simp)
  have p3 := B1.cell 3
  have p4 := B1.cell 4
  have p5 := B1.cell 5
  have p6 := B1.cell 6
  simp only [List.getElem?_toArray, List.getElem?_cons_succ, List.getElem?_cons_zero] at p3 p4 p5 p6
  have d0 : w5.cell? ⟨w.heap.size + 1 + 1, 0, none⟩ = some (.slice none 0 0) := B3.cell 0
  have d1 : w5.cell? ⟨w.heap.size + 1 + 1, 1, none⟩ = some (.slice none 0 0) := B3.cell 1
  have d2 : w5.cell? ⟨w.heap.size + 1 + 1, 2, none⟩ = some (.int .i64 0) := B3.cell 2
  have d3 : w5.cell? ⟨w.heap.size + 1 + 1, 3, none⟩ = some (.int .i64 0) := B3.cell 3
  have d4 : w5.cell? ⟨w.heap.size + 1 + 1, 4, none⟩ = some (.int .i64 0) := B3.cell 4
  have d5 : w5.cell? ⟨w.heap.size + 1 + 1, 5, none⟩ = some (.bool false) := B3.cell 5
  have e0 : w5.frozen? ⟨w.heap.size + 1 + 1, 0, none⟩ = false := B3.frozen 0
  have e1 : w5.frozen? ⟨w.heap.size + 1 + 1, 1, none⟩ = false := B3.frozen 1
  have e2 : w5.frozen? ⟨w.heap.size + 1 + 1, 2, none⟩ = false := B3.frozen 2
  have e3 : w5.frozen? ⟨w.heap.size + 1 + 1, 3, none⟩ = false := B3.frozen 3
  have e4 : w5.frozen? ⟨w.heap.size + 1 + 1, 4, none⟩ = false := B3.frozen 4
  have e5 : w5.frozen? ⟨w.heap.size + 1 + 1, 5, none⟩ = false := B3.frozen 5
  obtain ⟨vv, hvv⟩ : ∃ vv : List Value, vv = [.slice A1 x.n c1, .slice R1 x.rn rc1, .int .i64 x.bank, .int .i64 x.a, .int .i64 x.pc, .bool x.cy] := ⟨_, rfl⟩
  have S1 := Lib.hid (setN_far B1 (show w.heap.size ≠ w.heap.size + 1 + 1 by omega) vv 0)
  have S2 := Lib.hid (setN_far B2 (show w.heap.size + 1 ≠ w.heap.size + 1 + 1 by omega) vv 0)
  have s3 : Blk (setN w5 (w.heap.size + 1 + 1) 0 vv) (w.heap.size + 1 + 1) 28 #[.slice A1 x.n c1, .slice R1 x.rn rc1, .int .i64 x.bank, .int .i64 x.a, .int .i64 x.pc, .bool x.cy, .slice none 0 0, .bool false, .int .i64 0] := by
    have := setN_blk (b := w.heap.size + 1 + 1) vv 0 w5 _ B3
    rw [hvv] at this ⊢
    exact this
  have S3 := Lib.hid s3
  have HB5 := Lib.hid (setN_below (b := w.heap.size + 1 + 1) (show w.heap.size ≤ w.heap.size + 1 + 1 by omega) vv 0 _ _ (below_step HB0.out b5 HB0.out.size))
  have HT5 := Lib.hid (setN_touch (lo := w.heap.size) (hi := w.heap.size + 3) (b := w.heap.size + 1 + 1) (by omega) vv 0 _ _ (Touch.refl _ _ w5))
  have HZ5 := Lib.hid (setN_size (b := w.heap.size + 1 + 1) vv 0 w5)
  have O5 := Lib.hid (local_MemOwn _ _ _ _ _ _ _ _ _ _ _ _ w5 _ o5 HT5.out.size fun k k1 k2 => HT5.out.block k k2 (.inr k1))
  replace hvv := Lib.hid hvv
  clear s3 B1 B2 B3 b5 o5 H1 H2 H3 HM
  go_wp2_with fail
  change Calls _ _ _ (setN w5 (w.heap.size + 1 + 1) 0 [.slice A1 x.n c1, .slice R1 x.rn rc1, .int .i64 x.bank, .int .i64 x.a, .int .i64 x.pc, .bool x.cy]) _
  rw [← hvv.out]
  refine (toIntS_any x.B x.bn x.bc x.bs _ ((HML.out.back.below HB5.out).more HB5.out.size) hbn).mono ?_
  rw [show ∀ W, Gives W x.bs = fun e w' => ∃ A c, e = .returned (.slice A x.bn c) ∧ w'.ownsRow W.heap.size 3 1 (.slice A x.bn c) x.bn (iv x.bs) ∧ Below W.heap.size W w' from fun W => by unfold Gives; rw [hbl.out]]
  rintro e w7 ⟨B7, bc7, rfl, o7, b7⟩
  have z7 := b7.size
  rw [HZ5.out] at o7 z7
  have B1 := S1.out.below b7 S1.out.lt
  have B2 := S2.out.below b7 S2.out.lt
  have B3 := S3.out.below b7 S3.out.lt
  have O6 := Lib.hid (local_MemOwn _ _ _ _ _ _ _ _ _ _ _ _ _ w7 O5.out b7.size fun k k1 k2 => b7.block k (by rw [HZ5.out]; exact k2))
  have O7 := Lib.hid o7
  have hO7 := Lib.hid (show ∀ k, (Value.slice B7 x.bn bc7).ownBlock = some k → k < w7.heap.size from fun k hk => (o7.lt k hk).2)
  have hb7 := Lib.hid (below_step HB5.out b7 HB5.out.size)
  have p7 := B1.cell 7
  have p8 := B1.cell 8
  simp only [List.getElem?_toArray, List.getElem?_cons_succ, List.getElem?_cons_zero] at p7 p8
  have q0 : w7.cell? ⟨w.heap.size + 1 + 1, 0, none⟩ = some (.slice A1 x.n c1) := B3.cell 0
  have q1 : w7.cell? ⟨w.heap.size + 1 + 1, 1, none⟩ = some (.slice R1 x.rn rc1) := B3.cell 1
  have q2 : w7.cell? ⟨w.heap.size + 1 + 1, 2, none⟩ = some (.int .i64 x.bank) := B3.cell 2
  have q3 : w7.cell? ⟨w.heap.size + 1 + 1, 3, none⟩ = some (.int .i64 x.a) := B3.cell 3
  have q4 : w7.cell? ⟨w.heap.size + 1 + 1, 4, none⟩ = some (.int .i64 x.pc) := B3.cell 4
  have q5 : w7.cell? ⟨w.heap.size + 1 + 1, 5, none⟩ = some (.bool x.cy) := B3.cell 5
  have q6 : w7.cell? ⟨w.heap.size + 1 + 1, 6, none⟩ = some (.slice none 0 0) := B3.cell 6
  have q7 : w7.cell? ⟨w.heap.size + 1 + 1, 7, none⟩ = some (.bool false) := B3.cell 7
  have q8 : w7.cell? ⟨w.heap.size + 1 + 1, 8, none⟩ = some (.int .i64 0) := B3.cell 8
  have f6 : w7.frozen? ⟨w.heap.size + 1 + 1, 6, none⟩ = false := B3.frozen 6
  have f7 : w7.frozen? ⟨w.heap.size + 1 + 1, 7, none⟩ = false := B3.frozen 7
  have f8 : w7.frozen? ⟨w.heap.size + 1 + 1, 8, none⟩ = false := B3.frozen 8
  have g0 : w7.cell? ⟨w.heap.size + 1, 0, none⟩ = some (.slice none 0 0) := B2.cell 0
  have g1 : w7.cell? ⟨w.heap.size + 1, 1, none⟩ = some (.slice none 0 0) := B2.cell 1
  have g2 : w7.cell? ⟨w.heap.size + 1, 2, none⟩ = some (.int .i64 0) := B2.cell 2
  have g3 : w7.cell? ⟨w.heap.size + 1, 3, none⟩ = some (.int .i64 0) := B2.cell 3
  have g4 : w7.cell? ⟨w.heap.size + 1, 4, none⟩ = some (.int .i64 0) := B2.cell 4
  have g5 : w7.cell? ⟨w.heap.size + 1, 5, none⟩ = some (.bool false) := B2.cell 5
  have g6 : w7.cell? ⟨w.heap.size + 1, 6, none⟩ = some (.slice none 0 0) := B2.cell 6
  have g7 : w7.cell? ⟨w.heap.size + 1, 7, none⟩ = some (.bool false) := B2.cell 7
  have g8 : w7.cell? ⟨w.heap.size + 1, 8, none⟩ = some (.int .i64 0) := B2.cell 8
  have k0 : w7.frozen? ⟨w.heap.size + 1, 0, none⟩ = false := B2.frozen 0
  have k1 : w7.frozen? ⟨w.heap.size + 1, 1, none⟩ = false := B2.frozen 1
  have k2 : w7.frozen? ⟨w.heap.size + 1, 2, none⟩ = false := B2.frozen 2
  have k3 : w7.frozen? ⟨w.heap.size + 1, 3, none⟩ = false := B2.frozen 3
  have k4 : w7.frozen? ⟨w.heap.size + 1, 4, none⟩ = false := B2.frozen 4
  have k5 : w7.frozen? ⟨w.heap.size + 1, 5, none⟩ = false := B2.frozen 5
  have k6 : w7.frozen? ⟨w.heap.size + 1, 6, none⟩ = false := B2.frozen 6
  have k7 : w7.frozen? ⟨w.heap.size + 1, 7, none⟩ = false := B2.frozen 7
  have k8 : w7.frozen? ⟨w.heap.size + 1, 8, none⟩ = false := B2.frozen 8
  clear B1 B2 B3 b7 S1 S2 S3 O5 o7 p3 p4 p5 p6 d0 d1 d2 d3 d4 d5 e0 e1 e2 e3 e4 e5
  go_wp2_with fail
  refine bodyPost_ret (v := (x.at A1 c1 R1 rc1 B7 bc7).val) (by simp [results, Try.results15, go_sem, g0, g1, g2, g3, g4, g5, g6, g7, g8, Mch.val, Mch.cs, Mch.at]) rfl ⟨x.at A1 c1 R1 rc1 B7 bc7, vs, h1, w5.heap.size, rfl, ⟨_, _, _, _, _, _, rfl⟩, ?_, ?_⟩
  · refine MOwn.fin (a := w.heap.size) (lo3 := w.heap.size + 3) (w := w7) ⟨?_, ⟨O7.out, hO7.out⟩, z7⟩ ?_ (by simp [World.setCell]) (by omega)
    · exact O6.out
    · repeat (refine touchM_set ?_ (And.intro (by dsimp only; omega) (by dsimp only; omega)) _)
      exact Touch.refl _ _ _
  · refine hb7.out.trans (Touch.to_below (lo := w.heap.size) (hi := w.heap.size + 3) ?_ (Nat.le_refl _) hb7.out.size)
    repeat (refine touchM_set ?_ (And.intro (by dsimp only; omega) (by dsimp only; omega)) _)
    exact Touch.refl _ _ _
set_option maxRecDepth 4000 in
set_option maxHeartbeats 1000000 in
theorem eqMemory_same (A : Option Addr) (n c : Nat) (A' : Option Addr) (c' : Nat) (rs : List Int) (R : Option Addr) (rn rc : Nat) (R' : Option Addr) (rc' : Nat) (rows : List (List Int)) (bank : Int) (w : World) (h : MemRd w A n rs R rn rows) (h' : MemRd w A' n rs R' rn rows) :
    Calls Try.prog 43 #[.agg #[.slice A n c, .slice R rn rc, .int .i64 bank], .agg #[.slice A' n c', .slice R' rn rc', .int .i64 bank]] w fun e w' => e = .returned (.bool true) ∧ Below w.heap.size w w' := by
  have hb0 : Below w.heap.size w ((w.alloc (.cells #[.slice A n c, .slice R rn rc, .int .i64 bank] 26)).alloc (.cells #[.slice A' n c', .slice R' rn rc', .int .i64 bank] 26)) := ((Below.refl _ _).alloc (Nat.le_refl _) _).alloc (by simp) _
  have x1 := (MemBox.new w A n c R rn rc bank 26).below ((Below.refl _ _).alloc (Nat.le_refl _) (.cells #[.slice A' n c', .slice R' rn rc', .int .i64 bank] 26))
  have x2 := MemBox.new (w.alloc (.cells #[.slice A n c, .slice R rn rc, .int .i64 bank] 26)) A' n c' R' rn rc' bank 26
  rw [show (w.alloc (.cells #[.slice A n c, .slice R rn rc, .int .i64 bank] 26)).heap.size = w.heap.size + 1 by simp] at x2
  have X1 := Lib.hid x1
  have X2 := Lib.hid x2
  have H1 := Lib.hid (h.below hb0)
  have H2 := Lib.hid (h'.below hb0)
  have HB0 := Lib.hid hb0
  have hn := h.hn
  have hr := h.hr
  have HD := Lib.hid h.hd
  have hbb : (bank != bank) = false := by simp
  clear x1 x2 h h' hb0
  go_enter Try.func43, Try.ntmps43
  go_wp2_with fail
  refine (eqIntS_same _ _ _ _ _ _ _ H1.out.ram H2.out.ram (by omega)).mono ?_
  rintro e w5 ⟨rfl, b5⟩
  obtain ⟨-, c0, c1, c2⟩ := X1.out.below b5
  obtain ⟨-, d0, d1, d2⟩ := X2.out.below b5
  have B5 := Lib.hid b5
  clear b5
  go_wp2_with fail
  refine (eqIntSS_same _ _ _ _ _ _ _ (H1.out.below B5.out).rom (H2.out.below B5.out).rom hr HD.out).mono ?_
  rintro e w6 ⟨rfl, b6⟩
  obtain ⟨-, c0, c1, c2⟩ := X1.out.below (below_step B5.out b6 B5.out.size)
  obtain ⟨-, d0, d1, d2⟩ := X2.out.below (below_step B5.out b6 B5.out.size)
  have B6 := Lib.hid (below_step B5.out b6 B5.out.size)
  clear b6
  go_wp2_with fail
  go_ret
  exact ⟨rfl, below_step HB0.out B6.out HB0.out.size⟩
set_option maxRecDepth 20000 in
set_option maxHeartbeats 2000000 in
theorem eqMachine_same (x : Mch) (A : Option Addr) (c : Nat) (R : Option Addr) (rc : Nat) (B : Option Addr) (bc : Nat) (A' : Option Addr) (c' : Nat) (R' : Option Addr) (rc' : Nat) (B' : Option Addr) (bc' : Nat) (w : World) (h : MRd w (x.at A c R rc B bc)) (h' : MRd w (x.at A' c' R' rc' B' bc')) :
    Calls Try.prog 17 #[(x.at A c R rc B bc).val, (x.at A' c' R' rc' B' bc').val] w fun e w' => e = .returned (.bool true) ∧ Below w.heap.size w w' := by
  have hb0 : Below w.heap.size w ((w.alloc (.cells (x.at A c R rc B bc).cs 28)).alloc (.cells (x.at A' c' R' rc' B' bc').cs 28)) := ((Below.refl _ _).alloc (Nat.le_refl _) _).alloc (by simp) _
  have x1 := (MBox.new w (x.at A c R rc B bc) 28).below ((Below.refl _ _).alloc (Nat.le_refl _) (.cells (x.at A' c' R' rc' B' bc').cs 28))
  have x2 := MBox.new (w.alloc (.cells (x.at A c R rc B bc).cs 28)) (x.at A' c' R' rc' B' bc') 28
  rw [show (w.alloc (.cells (x.at A c R rc B bc).cs 28)).heap.size = w.heap.size + 1 by simp] at x2
  have X1 := Lib.hid x1
  have X2 := Lib.hid x2
  have H1 := Lib.hid (h.below hb0)
  have H2 := Lib.hid (h'.below hb0)
  have HB0 := Lib.hid hb0
  have hbn : x.bn ≤ 1000000000 := h.hb
  have n1 : (x.a != x.a) = false := by simp
  have n2 : (x.pc != x.pc) = false := by simp
  have n3 : (x.cyc != x.cyc) = false := by simp
  have n4 : (x.cy != x.cy) = false := by simp
  have n5 : (x.st != x.st) = false := by simp
  clear x1 x2 h h' hb0
  unfold Mch.cs Mch.at at *
  unfold Mch.val Mch.cs
  go_enter Try.func17, Try.ntmps17
  go_wp2_with fail
  refine (eqMemory_same _ _ _ _ _ _ _ _ _ _ _ _ _ _ H1.out.m H2.out.m).mono ?_
  rintro e w5 ⟨rfl, b5⟩
  obtain ⟨⟨-, -, -⟩, c3, c4, c5, c6, c7, c8⟩ := (X1.out.below b5).all
  obtain ⟨⟨-, -, -⟩, d3, d4, d5, d6, d7, d8⟩ := (X2.out.below b5).all
  have B5 := Lib.hid b5
  clear b5
  go_wp2_with fail
  refine (eqIntS_same B B' x.bn bc bc' x.bs _ (H1.out.below B5.out).back (H2.out.below B5.out).back (by omega)).mono ?_
  rintro e w6 ⟨rfl, b6⟩
  obtain ⟨⟨-, -, -⟩, c3, c4, c5, c6, c7, c8⟩ := (X1.out.below (below_step B5.out b6 B5.out.size)).all
  obtain ⟨⟨-, -, -⟩, d3, d4, d5, d6, d7, d8⟩ := (X2.out.below (below_step B5.out b6 B5.out.size)).all
  have B6 := Lib.hid (below_step B5.out b6 B5.out.size)
  clear b6
  go_wp2_with fail
  go_ret
  exact ⟨rfl, below_step HB0.out B6.out HB0.out.size⟩
theorem eqMachine_two (x y y' : Mch) (w : World) (e1 : Msame x y) (e2 : Msame x y') (h : MRd w y) (h' : MRd w y') :
    Calls Try.prog 17 #[y.val, y'.val] w fun e w' => e = .returned (.bool true) ∧ Below w.heap.size w w' := by
  obtain ⟨A, c, R, rc, B, bc, rfl⟩ := e1
  obtain ⟨A', c', R', rc', B', bc', rfl⟩ := e2
  exact eqMachine_same x A c R rc B bc A' c' R' rc' B' bc' w h h'
end Go.Proofs.Ytgedfcccflobmaa
