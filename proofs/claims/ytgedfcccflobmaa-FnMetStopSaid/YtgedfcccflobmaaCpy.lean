/-
  Copies of a machine: the implementation's copyMemory and copyMachine. The machine is valid.
-/
import Derived.Test.YtgedfcccflobmaaStp
import Derived.Test.YtgedfcccflobmaaRd
import Derived.Deep.RegionLaw
namespace Go.Proofs.Ytgedfcccflobmaa
open Go.RowKit
set_option linter.unusedVariables false
set_option linter.unusedSimpArgs false
set_option maxRecDepth 4000 in
/-- append of a list to another, at a step of a region that draws. -/
theorem step_copyL {ops : Array Oper} {o : Oper} {a : Act} {K : Act → World → Prop} {Q : Exit → Act → World → Prop} {E : Prop} {w : World} (hgd : o.guard = none) (s x : Operand)
    (ho : o.op = .call { callee := .builtin .append, args := #[s, x], argTypes := #[23, 23] })
    (base n c m d B : Nat) (A : Option Addr) (ad : Addr) (xs ys : List Int) (hs : a.eval s = .slice A n c) (hx : a.eval x = .slice (some ad) m d)
    (hown : w.ownsRow base 3 1 (.slice A n c) n (iv xs)) (hy : Ints w B (some ad) m ys) (hn : n + m ≤ 1000000000) (hb : base ≤ w.heap.size)
    (h : ∀ A' c' w', w'.ownsRow base 3 1 (.slice A' (n + m) c') (n + m) (iv (xs ++ ys)) → Below base w w' → K (a.put o.dst (.slice A' (n + m) c')) w') :
    if Region.wanted o (yielded ops a.tmps) = true then Oper.wp Try.prog o a w K Q else E := by
  have hw : Region.wanted o (yielded ops a.tmps) = true := by simp [Region.wanted, hgd]
  rw [if_pos hw]
  obtain ⟨i0, hi0, hz0, hz1, hz2⟩ := info_parts int_info
  have hnews : ∀ j u, (iv ys)[j]? = some u → w.cell? (ad.add j) = some u := by
    intro j u hj
    have hm : 0 < m := by
      obtain ⟨hk, _⟩ := iv_get hj
      have := hy.len; omega
    obtain ⟨ad', e, _, hc⟩ := hy.2 hm
    injection e with e
    subst e
    exact hc j u hj
  have h1 : ∀ u ∈ iv ys, u.oneCell' = true := by
    intro u hu
    simp only [iv, List.mem_map] at hu
    obtain ⟨z, _, rfl⟩ := hu
    rfl
  obtain ⟨v', w', hr, h2, h3, h4, h5⟩ := run_append_own_at (P := Try.prog) w base 23 o.type 3 i0 (.int .i64 0) 1 8 Try.underlying23 hi0 hz0 hz1 hz2 rfl (by omega) _ n (iv xs) hown ad m d (iv ys) hy.1 hnews h1 (by simp only [maxLen]; omega) (by omega) hb
  unfold Oper.wp execOp
  simp only [ho, resolve, invoke, builtin, Sem.run_bind, Sem.run_pure, Result.andThen_ok, List.map_toArray, List.map_cons, List.map_nil, hs, hx, hr]
  obtain ⟨A', c', rfl⟩ := own_form h2
  rw [← iv_append] at h2
  exact h A' c' w' h2 (below_of_grown h3 hb fun k hk => (hown.lt k hk).1)
/-- A memory just made: its numbers and its rows lie apart. -/
structure MemNew (lo : Nat) (w' : World) (A : Option Addr) (n c : Nat) (rs : List Int) (R : Option Addr) (rc : Nat) (rows : List (List Int)) (vs : List Value) (h1 : Nat) : Prop where
  ram : w'.ownsRow lo 3 1 (.slice A n c) n (iv rs)
  rom : ∃ r2, r2 ≤ w'.heap.size ∧ (∀ k, (Value.slice A n c).ownBlock = some k → k < h1 ∨ r2 ≤ k) ∧ GOwn w' h1 r2 R rc rows vs
  lo1 : lo ≤ h1
theorem MemNew.below {lo lo' n c rc h1 : Nat} {w w' : World} {A R : Option Addr} {rs : List Int} {rows : List (List Int)} {vs : List Value} (h : MemNew lo w A n c rs R rc rows vs h1) (hs : w.heap.size ≤ w'.heap.size) (hb : ∀ k, lo ≤ k → k < w.heap.size → w'.heap[k]? = w.heap[k]?) (hl : lo' ≤ lo) : MemNew lo' w' A n c rs R rc rows vs h1 := by
  obtain ⟨r2, q1, q2, q3⟩ := h.rom
  exact ⟨own_base (own_same h.ram fun g hg => hb g (h.ram.lt g hg).1 (h.ram.lt g hg).2) hl, ⟨r2, Nat.le_trans q1 hs, q2, local_ZG _ _ _ _ _ _ w w' q3 hs fun k k1 k2 => hb k (Nat.le_trans h.lo1 k1) (Nat.lt_of_lt_of_le k2 q1)⟩, Nat.le_trans hl h.lo1⟩
def MemGives (w : World) (n : Nat) (rs : List Int) (rn : Nat) (rows : List (List Int)) (bank : Int) (e : Ending) (w' : World) : Prop :=
  ∃ A' c' R' rc' vs h1, e = .returned (.agg #[.slice A' n c', .slice R' rn rc', .int .i64 bank]) ∧ MemNew w.heap.size w' A' n c' rs R' rc' rows vs h1 ∧ Below w.heap.size w w'
theorem blkC (w : World) (a b : Array Value) (t1 t2 : TypeId) : Blk ((w.alloc (.cells a t1)).alloc (.cells b t2)) w.heap.size t1 a ∧ Blk ((w.alloc (.cells a t1)).alloc (.cells b t2)) (w.heap.size + 1) t2 b := by
  refine ⟨(Blk.new w t1 a).alloc _, ?_⟩
  have h := Blk.new (w.alloc (.cells a t1)) t2 b
  rw [show (w.alloc (.cells a t1)).heap.size = w.heap.size + 1 by simp] at h
  exact h
set_option maxRecDepth 4000 in
set_option maxHeartbeats 4000000 in
theorem copyMemory_at (ad : Addr) (n c : Nat) (rs : List Int) (R : Option Addr) (rn rc : Nat) (rows : List (List Int)) (bank : Int) (w : World) (h : MemRd w (some ad) n rs R rn rows) (hm : memB rs rows bank = true) :
    Calls Try.prog 55 #[.agg #[.slice (some ad) n c, .slice R rn rc, .int .i64 bank]] w (MemGives w n rs rn rows bank) := by
  obtain ⟨⟨r1, r2⟩, ⟨r3, r4⟩, r5, r6, r7⟩ := mem_facts hm
  have hnl := h.ram.len
  have hrl := h.rom.1
  obtain ⟨K1, K2⟩ := blkC w #[.slice (some ad) n c, .slice R rn rc, .int .i64 bank] #[.slice none 0 0, .slice none 0 0, .int .i64 0] 26 26
  have hb0 : Below w.heap.size w ((w.alloc (.cells #[.slice (some ad) n c, .slice R rn rc, .int .i64 bank] 26)).alloc (.cells #[.slice none 0 0, .slice none 0 0, .int .i64 0] 26)) := ((Below.refl _ _).alloc (Nat.le_refl _) _).alloc (by simp) _
  have HR := Lib.hid (h.below hb0.drew)
  have HB0 := Lib.hid hb0
  have hsz : ((w.alloc (.cells #[.slice (some ad) n c, .slice R rn rc, .int .i64 bank] 26)).alloc (.cells #[.slice none 0 0, .slice none 0 0, .int .i64 0] 26)).heap.size = w.heap.size + 2 := by simp
  have HK1 := Lib.hid K1
  have HK2 := Lib.hid K2
  have c0 := K1.cell 0
  have c1 := K1.cell 1
  have c2 := K1.cell 2
  have HRW := Lib.hid (show ∀ k, k < rn → (rows.getD k []).length ≤ 2000000 from fun k hk => by have := (rows_get r5 (k := k) (by omega)).1; omega)
  clear K1 K2 hb0 h
  go_enter Try.func55, Try.ntmps55
  go_wp2_with fail
  have W0 : (((w.alloc (.cells #[.slice (some ad) n c, .slice R rn rc, .int .i64 bank] 26)).alloc (.cells #[.slice none 0 0, .slice none 0 0, .int .i64 0] 26)).drew).heap.size = w.heap.size + 2 := hsz
  have HA0 := Lib.hid (World.ownsRow_nil (((w.alloc (.cells #[.slice (some ad) n c, .slice R rn rc, .int .i64 bank] 26)).alloc (.cells #[.slice none 0 0, .slice none 0 0, .int .i64 0] 26)).drew) (w.heap.size + 2) 3 1)
  have HDW := Lib.hid (HB0.out.drew)
  go_region_law ((first
    | (refine step_copyL (by rfl) _ _ (by rfl) (w.heap.size + 2) 0 0 n c _ none ad [] rs (by rfl) (by rfl) HA0.out HR.out.ram (by omega) (by omega) ?_; intro A5 c5 w5 o5 b5; have z5 := b5.size; have k1 := HK1.out.drew.below b5 (by omega); have k2 := HK2.out.drew.below b5 (by omega); have c0 := k1.cell 0; have c1 := k1.cell 1; have c2 := k1.cell 2; have HR5 := Lib.hid ((HR.out.below (b5.mono (by omega))).rom); have B5 := Lib.hid (HDW.out.trans (b5.mono (by omega))); replace k1 := Lib.hid k1; replace k2 := Lib.hid k2; rw [List.nil_append, Nat.zero_add] at o5; replace o5 := Lib.hid o5; clear b5; rw [Nat.zero_add])
    | (refine ob_plain rfl (ob_call 75 _ _ #[.slice R rn rc] rfl (by kernel_rfl) (fun _ _ => by kernel_rfl) ?_); refine (copyRows_any _ _ _ rows _ HR.out.rom (by omega) HRW.out).mono ?_; rintro e w5 ⟨R5, rc5, vs, rfl, o5, b5⟩; rw [W0] at o5 b5; have z5 := b5.size; have k1 := HK1.out.drew.below b5 (by omega); have k2 := HK2.out.drew.below b5 (by omega); have c0 := k1.cell 0; have c1 := k1.cell 1; have c2 := k1.cell 2; have HR7 := Lib.hid ((HR.out.below (b5.mono (by omega))).ram); have B5 := Lib.hid (HDW.out.trans (b5.mono (by omega))); have HA5 := Lib.hid (World.ownsRow_nil w5 w5.heap.size 3 1); replace k1 := Lib.hid k1; replace k2 := Lib.hid k2; have G5 := Lib.hid o5; clear b5 o5; refine ⟨_, rfl, ?_⟩)
    | (refine ob_plain rfl (ob_call 75 _ _ #[.slice R rn rc] rfl (by kernel_rfl) (fun _ _ => by kernel_rfl) ?_); refine (copyRows_any _ _ _ rows _ HR5.out (by omega) HRW.out).mono ?_; rintro e w6 ⟨R6, rc6, vs, rfl, o6, b6⟩; have z6 := b6.size; have q1 := k1.out.below b6 (by omega); have q2 := k2.out.below b6 (by omega); have c0 := q1.cell 0; have c1 := q1.cell 1; have c2 := q1.cell 2; have s0 := q2.cell 0; have s1 := q2.cell 1; have s2 := q2.cell 2; have f0 := q2.frozen 0; have f1 := q2.frozen 1; have f2 := q2.frozen 2; have B6 := Lib.hid (B5.out.trans (b6.mono (by omega))); have M6 := Lib.hid (show MemNew (w.heap.size + 2) w6 A5 n c5 rs R6 rc6 rows vs w5.heap.size from ⟨own_below o5.out b6, ⟨_, Nat.le_refl _, fun k hk => .inl (o5.out.lt k hk).2, o6⟩, by omega⟩); replace q2 := Lib.hid q2; clear b6 o6 q1; refine ⟨_, rfl, ?_⟩)
    | (refine step_copyL (by rfl) _ _ (by rfl) w5.heap.size 0 0 n c _ none ad [] rs (by rfl) (by rfl) HA5.out HR7.out (by omega) (Nat.le_refl _) ?_; intro A6 c6 w6 o6 b6; rw [List.nil_append] at o6; rw [Nat.zero_add] at o6; have z6 := b6.size; have q1 := k1.out.below b6 (by omega); have q2 := k2.out.below b6 (by omega); have c0 := q1.cell 0; have c1 := q1.cell 1; have c2 := q1.cell 2; have s0 := q2.cell 0; have s1 := q2.cell 1; have s2 := q2.cell 2; have f0 := q2.frozen 0; have f1 := q2.frozen 1; have f2 := q2.frozen 2; have B6 := Lib.hid (B5.out.trans (b6.mono (by omega))); have M6 := Lib.hid (show MemNew (w.heap.size + 2) w6 A6 n c6 rs R5 rc5 rows vs (w.heap.size + 2) from ⟨own_base o6 (by omega), ⟨w5.heap.size, z6, fun k hk => .inr (o6.lt k hk).1, G5.out.below b6⟩, Nat.le_refl _⟩); replace q2 := Lib.hid q2; clear b6 o6 q1; rw [Nat.zero_add])))
  all_goals (
    go_wp2_with fail
    refine bodyPost_ret (results_cell_row Try.results55 _ _ (w.heap.size + 1) 26 #[.slice _ n _, .slice _ rn _, .int .i64 bank] (0, 0) _ rfl (((q2.out.set_ 0 _).set_ 1 _).set_ 2 _) Try.underlying26 rfl rfl) rfl ?_
    refine ⟨_, _, _, _, vs, _, rfl, M6.out.below (by simp [World.setCell]) (fun k k1 k2 => ?_) (by omega), ((B6.out.setCell (Nat.le_succ _) _).setCell (Nat.le_succ _) _).setCell (Nat.le_succ _) _⟩
    exact ((Below.heap_setCell _ ⟨w.heap.size + 1, 2, none⟩ _ k (by simp; omega)).trans (Below.heap_setCell _ ⟨w.heap.size + 1, 1, none⟩ _ k (by simp; omega))).trans (Below.heap_setCell _ ⟨w.heap.size + 1, 0, none⟩ _ k (by simp; omega)))
/-- A machine just made: where its rows lie. -/
structure MNew (lo h1 h2 : Nat) (w : World) (x : Mch) (vs : List Value) : Prop where
  ram : w.ownsRow lo 3 1 (.slice x.A x.n x.c) x.n (iv x.rs)
  rlt : ∀ k, (Value.slice x.A x.n x.c).ownBlock = some k → k < h2
  rom : ∃ r2, r2 ≤ h2 ∧ (∀ k, (Value.slice x.A x.n x.c).ownBlock = some k → k < h1 ∨ r2 ≤ k) ∧ GOwn w h1 r2 x.R x.rc x.rows vs
  rl : x.rn = x.rows.length
  back : w.ownsRow h2 3 1 (.slice x.B x.bn x.bc) x.bn (iv x.bs)
  o2 : h2 ≤ w.heap.size
  lo2 : lo ≤ h2
theorem MNew.box {lo h1 h2 : Nat} {w : World} {x : Mch} {vs : List Value} (h : MNew lo h1 h2 w x vs) : MSt lo h1 h2 w.heap.size x vs (w.alloc (.cells x.cs 28)) := by
  have hb : Below w.heap.size w (w.alloc (.cells x.cs 28)) := (Below.refl _ _).alloc (Nat.le_refl _) _
  obtain ⟨r2, q1, q2, q3⟩ := h.rom
  exact ⟨Blk.new _ _ _, own_below h.ram hb, h.rlt, ⟨r2, q1, q2, q3.below hb⟩, h.rl, own_below h.back hb, h.o2⟩
def MachGives (w : World) (x : Mch) (e : Ending) (w' : World) : Prop := ∃ y vs h1 h2, e = .returned y.val ∧ Msame x y ∧ MNew w.heap.size h1 h2 w' y vs ∧ Below w.heap.size w w'
set_option maxRecDepth 8000 in
set_option maxHeartbeats 4000000 in
theorem copyMachine_at (x : Mch) (ad : Addr) (w : World) (hA : x.A = some ad) (h : MRd w x) (hf : formB x = true) (hB : x.B = none → x.bc = 0) :
    Calls Try.prog 31 #[x.val] w (MachGives w x) := by
  have F := form_iff.1 (formP_of.trans hf)
  have hm := F.m
  obtain ⟨A, n, c, rs, R, rn, rc, rows, bank, a, pc, cy, B, bn, bc, bs, st, cyc⟩ := x
  simp only at hA hB
  subst hA
  have hm : memB rs rows bank = true := hm
  obtain ⟨K1, K2⟩ := blkC w #[.slice (some ad) n c, .slice R rn rc, .int .i64 bank, .int .i64 a, .int .i64 pc, .bool cy, .slice B bn bc, .bool st, .int .i64 cyc] #[.slice none 0 0, .slice none 0 0, .int .i64 0, .int .i64 0, .int .i64 0, .bool false, .slice none 0 0, .bool false, .int .i64 0] 28 28
  have W0 : ((w.alloc (.cells #[.slice (some ad) n c, .slice R rn rc, .int .i64 bank, .int .i64 a, .int .i64 pc, .bool cy, .slice B bn bc, .bool st, .int .i64 cyc] 28)).alloc (.cells #[.slice none 0 0, .slice none 0 0, .int .i64 0, .int .i64 0, .int .i64 0, .bool false, .slice none 0 0, .bool false, .int .i64 0] 28)).heap.size = w.heap.size + 2 := by simp
  have hb0 : Below w.heap.size w ((w.alloc (.cells #[.slice (some ad) n c, .slice R rn rc, .int .i64 bank, .int .i64 a, .int .i64 pc, .bool cy, .slice B bn bc, .bool st, .int .i64 cyc] 28)).alloc (.cells #[.slice none 0 0, .slice none 0 0, .int .i64 0, .int .i64 0, .int .i64 0, .bool false, .slice none 0 0, .bool false, .int .i64 0] 28)) := ((Below.refl _ _).alloc (Nat.le_refl _) _).alloc (by simp) _
  have hR : MemRd _ (some ad) n rs R rn rows := h.m.below hb0
  have HR := Lib.hid hR
  have hBK : Ints w w.heap.size B bn bs := h.back
  have HBK := Lib.hid hBK
  have hbn : bn ≤ 1000000000 := h.hb
  have HB0 := Lib.hid hb0
  have HK1 := Lib.hid K1
  have HK2 := Lib.hid K2
  have c0 := K1.cell 0
  have c1 := K1.cell 1
  have c2 := K1.cell 2
  clear K1 K2 hb0 h hR hBK
  show Calls Try.prog 31 #[.agg #[.slice (some ad) n c, .slice R rn rc, .int .i64 bank, .int .i64 a, .int .i64 pc, .bool cy, .slice B bn bc, .bool st, .int .i64 cyc]] w _
  go_enter Try.func31, Try.ntmps31
  go_wp2_with (first
    | (go_at_call 55; refine (copyMemory_at ad n c rs R rn rc rows bank _ HR.out hm).mono ?_; rintro e w5 ⟨A5, c5, R5, rc5, vs, h1, rfl, M5, b5⟩; rw [W0] at M5 b5; have z5 := b5.size; have k1 := HK1.out.below b5 (by omega); have k2 := HK2.out.below b5 (by omega); have c0 := k1.cell 0; have c1 := k1.cell 1; have c2 := k1.cell 2; have c6 := k1.cell 6; have f0 := k1.frozen 0; have f1 := k1.frozen 1; have f2 := k1.frozen 2; have f6 := k1.frozen 6; have B5 := Lib.hid (HB0.out.trans (b5.mono (by omega))); replace k1 := Lib.hid k1; replace k2 := Lib.hid k2; replace M5 := Lib.hid M5; clear b5)
    | (at_builtin; refine push_list _ rfl _ _ rfl w5.heap.size 0 0 bn bc w.heap.size none B [] bs rfl rfl (World.ownsRow_nil _ _ _ _) (HBK.out.below (((B5.out.setCell (Nat.le_refl _) _).setCell (Nat.le_refl _) _).setCell (Nat.le_refl _) _)) hB (by omega) (by simp [World.setCell]) ?_; intro A6 c6 w6 o6 b6; rw [List.nil_append, Nat.zero_add] at o6; rw [Nat.zero_add]; have z6 := b6.size; have q1 := (((k1.out.set_ 0 (.slice A5 n c5)).set_ 1 (.slice R5 rn rc5)).set_ 2 (.int .i64 bank)).below b6 (by omega); have q2 := (((k2.out.far (p := ⟨w.heap.size, 0, none⟩) (by simp) (.slice A5 n c5)).far (p := ⟨w.heap.size, 1, none⟩) (by simp) (.slice R5 rn rc5)).far (p := ⟨w.heap.size, 2, none⟩) (by simp) (.int .i64 bank)).below b6 (by omega); have d0 : w6.cell? ⟨w.heap.size, 0, none⟩ = some (.slice A5 n c5) := q1.cell 0; have d1 : w6.cell? ⟨w.heap.size, 1, none⟩ = some (.slice R5 rn rc5) := q1.cell 1; have d2 : w6.cell? ⟨w.heap.size, 2, none⟩ = some (.int .i64 bank) := q1.cell 2; have d3 : w6.cell? ⟨w.heap.size, 3, none⟩ = some (.int .i64 a) := q1.cell 3; have d4 : w6.cell? ⟨w.heap.size, 4, none⟩ = some (.int .i64 pc) := q1.cell 4; have d5 : w6.cell? ⟨w.heap.size, 5, none⟩ = some (.bool cy) := q1.cell 5; have d7 : w6.cell? ⟨w.heap.size, 7, none⟩ = some (.bool st) := q1.cell 7; have d8 : w6.cell? ⟨w.heap.size, 8, none⟩ = some (.int .i64 cyc) := q1.cell 8; have d6 : w6.cell? ⟨w.heap.size, 6, none⟩ = some (.slice B bn bc) := q1.cell 6; have e6 := q1.frozen 6; have j0 := q2.cell 0; have j1 := q2.cell 1; have j2 := q2.cell 2; have j3 := q2.cell 3; have j4 := q2.cell 4; have j5 := q2.cell 5; have j6 := q2.cell 6; have j7 := q2.cell 7; have j8 := q2.cell 8; have g0 := q2.frozen 0; have g1 := q2.frozen 1; have g2 := q2.frozen 2; have g3 := q2.frozen 3; have g4 := q2.frozen 4; have g5 := q2.frozen 5; have g6 := q2.frozen 6; have g7 := q2.frozen 7; have g8 := q2.frozen 8; replace q1 := Lib.hid q1; replace q2 := Lib.hid q2; replace o6 := Lib.hid o6; replace b6 := Lib.hid b6))
  have hz : ∀ k, w.heap.size + 2 ≤ k → (setN (w6.setCell ⟨w.heap.size, 6, none⟩ (.slice A6 bn c6)) (w.heap.size + 1) 0 [.slice A5 n c5, .slice R5 rn rc5, .int .i64 bank, .int .i64 a, .int .i64 pc, .bool cy, .slice A6 bn c6, .bool st, .int .i64 cyc]).heap[k]? = w6.heap[k]? := fun k hk => (setN_heap (by omega) _ _ _).trans (Below.heap_setCell _ ⟨w.heap.size, 6, none⟩ _ k (by simp; omega))
  have hzs : (setN (w6.setCell ⟨w.heap.size, 6, none⟩ (.slice A6 bn c6)) (w.heap.size + 1) 0 [.slice A5 n c5, .slice R5 rn rc5, .int .i64 bank, .int .i64 a, .int .i64 pc, .bool cy, .slice A6 bn c6, .bool st, .int .i64 cyc]).heap.size = w6.heap.size := (setN_size _ _ _).trans (by simp [World.setCell])
  have hw5 : ∀ k, w.heap.size + 2 ≤ k → k < w5.heap.size → w6.heap[k]? = w5.heap[k]? := fun k hk hk2 => (b6.out.block k hk2).trans (((Below.heap_setCell _ ⟨w.heap.size, 2, none⟩ _ k (by simp; omega)).trans (Below.heap_setCell _ ⟨w.heap.size, 1, none⟩ _ k (by simp; omega))).trans (Below.heap_setCell _ ⟨w.heap.size, 0, none⟩ _ k (by simp; omega)))
  have hblk : Blk (setN (w6.setCell ⟨w.heap.size, 6, none⟩ (.slice A6 bn c6)) (w.heap.size + 1) 0 [.slice A5 n c5, .slice R5 rn rc5, .int .i64 bank, .int .i64 a, .int .i64 pc, .bool cy, .slice A6 bn c6, .bool st, .int .i64 cyc]) (w.heap.size + 1) 28 #[.slice A5 n c5, .slice R5 rn rc5, .int .i64 bank, .int .i64 a, .int .i64 pc, .bool cy, .slice A6 bn c6, .bool st, .int .i64 cyc] := by
    have q := setN_blk [.slice A5 n c5, .slice R5 rn rc5, .int .i64 bank, .int .i64 a, .int .i64 pc, .bool cy, .slice A6 bn c6, .bool st, .int .i64 cyc] 0 _ _ (q2.out.far (p := ⟨w.heap.size, 6, none⟩) (by simp) (.slice A6 bn c6))
    simpa [setA] using q
  have HBLK := Lib.hid hblk
  clear hblk
  generalize hwz : setN (w6.setCell ⟨w.heap.size, 6, none⟩ (.slice A6 bn c6)) (w.heap.size + 1) 0 [.slice A5 n c5, .slice R5 rn rc5, .int .i64 bank, .int .i64 a, .int .i64 pc, .bool cy, .slice A6 bn c6, .bool st, .int .i64 cyc] = wz at HBLK hz hzs
  change bodyPost _ _ _ _ _ (setN (w6.setCell ⟨w.heap.size, 6, none⟩ (.slice A6 bn c6)) (w.heap.size + 1) 0 [.slice A5 n c5, .slice R5 rn rc5, .int .i64 bank, .int .i64 a, .int .i64 pc, .bool cy, .slice A6 bn c6, .bool st, .int .i64 cyc])
  rw [hwz]
  refine bodyPost_ret (results_cell_row Try.results31 _ _ (w.heap.size + 1) 28 #[.slice A5 n c5, .slice R5 rn rc5, .int .i64 bank, .int .i64 a, .int .i64 pc, .bool cy, .slice A6 bn c6, .bool st, .int .i64 cyc] (0, 0) _ rfl HBLK.out Try.underlying28 rfl rfl) rfl ?_
  have z56 : w5.heap.size ≤ w6.heap.size := by have := b6.out.size; simpa [World.setCell] using this
  have zz : w5.heap.size ≤ wz.heap.size := by rw [hzs]; exact z56
  have hall : ∀ k, w.heap.size + 2 ≤ k → k < w5.heap.size → wz.heap[k]? = w5.heap[k]? := fun k k1 k2 => (hz k k1).trans (hw5 k k1 k2)
  obtain ⟨r2, p1, p2, p3⟩ := M5.out.rom
  have hlo := M5.out.lo1
  have hBW : Below w.heap.size w wz := by
    rw [← hwz]
    exact setN_below (Nat.le_succ _) _ 0 _ _ (((((B5.out.setCell (p := ⟨w.heap.size, 0, none⟩) (Nat.le_refl _) _).setCell (p := ⟨w.heap.size, 1, none⟩) (Nat.le_refl _) _).setCell (p := ⟨w.heap.size, 2, none⟩) (Nat.le_refl _) _).trans (b6.out.mono (by omega))).setCell (p := ⟨w.heap.size, 6, none⟩) (Nat.le_refl _) _)
  exact ⟨⟨A5, n, c5, rs, R5, rn, rc5, rows, bank, a, pc, cy, A6, bn, c6, bs, st, cyc⟩, vs, h1, w5.heap.size, rfl, ⟨A5, c5, R5, rc5, A6, c6, rfl⟩, ⟨own_base (own_same M5.out.ram fun g hg => hall g (M5.out.ram.lt g hg).1 (M5.out.ram.lt g hg).2) (by omega), fun k hk => (M5.out.ram.lt k hk).2, ⟨r2, p1, p2, local_ZG _ _ _ _ _ _ w5 wz p3 zz fun k k1 k2 => hall k (by omega) (by omega)⟩, HR.out.rom.1.symm, own_same o6.out fun g hg => hz g (by have := (o6.out.lt g hg).1; omega), zz, B5.out.size⟩, hBW⟩
end Go.Proofs.Ytgedfcccflobmaa
