/-
  Memories that the statements draw: the reference's l20Memory. No condition.
-/
import Derived.Test.YtgedfcccflobmaaDrm
import Derived.Test.YtgedfcccflobmaaDrn
import Derived.Test.YtgedfcccflobmaaTypedT
namespace Go.Proofs.Ytgedfcccflobmaa
open Go.RowKit
set_option linter.unusedVariables false
set_option linter.unusedSimpArgs false
/-- Only block g and boxes of machines may have changed. -/
structure Keep (g : Nat) (w w' : World) : Prop where
  size : w.heap.size ≤ w'.heap.size
  block : ∀ k, k < w.heap.size → k ≠ g → (∀ cs, ¬ Blk w k 28 cs) → w'.heap[k]? = w.heap[k]?
theorem Keep.trans {g : Nat} {a b c : World} (h : Keep g a b) (k : Keep g b c) : Keep g a c :=
  ⟨Nat.le_trans h.size k.size, fun i hi hg hm => by
    have e := h.block i hi hg hm
    exact (k.block i (Nat.lt_of_lt_of_le hi h.size) hg fun cs hb => hm cs (e.symm.trans hb)).trans e⟩
theorem Keep.of_grown {g : Nat} {w w' : World} (h : w.grownBy w' (some g)) : Keep g w w' := ⟨h.size, fun k hk hg _ => h.block k hk (by intro e; injection e with e; exact hg e)⟩
theorem Keep.of_below {g : Nat} {w w' : World} (h : Below w.heap.size w w') : Keep g w w' := ⟨h.size, fun k hk _ _ => h.block k hk⟩
theorem Keep.refl (g : Nat) (w : World) : Keep g w w := ⟨Nat.le_refl _, fun _ _ _ _ => rfl⟩
theorem Keep.set {g b k : Nat} {w : World} {cs : Array Value} {v : Value} (h : Blk w b 28 cs) : Keep g w (w.setCell ⟨b, k, none⟩ v) :=
  ⟨by simp [World.setCell], fun i hi hg hm => Below.heap_setCell w ⟨b, k, none⟩ v i (fun e => hm cs (by have e : i = b := e; rw [e]; exact h))⟩
theorem own_keep {w w' : World} {base e size n g : Nat} {v : Value} {xs : List Value} (h : w.ownsRow base e size v n xs) (hk : Keep g w w') (hb : g < base) (he : e ≠ 28) : w'.ownsRow base e size v n xs :=
  own_same h fun q hq => hk.block q (h.lt q hq).2 (by have := (h.lt q hq).1; omega) fun cs hb => by
    obtain ⟨A, c, rfl⟩ := own_form h
    exact own_blk_ne h hb he hq
/-- P holds whatever the reader does from here. -/
def Sure (g : Nat) (P : World → Prop) (w : World) : Prop := ∀ w', Keep g w w' → P w'
theorem Sure.keep {g : Nat} {P : World → Prop} {w w' : World} (h : Sure g P w) (hg : Keep g w w') : Sure g P w' := fun w2 h2 => h w2 (hg.trans h2)
theorem Sure.rd {g : Nat} {P : World → Prop} {w w' : World} (h : Sure g P w) (hg : w.grownBy w' (some g)) : Sure g P w' := h.keep (Keep.of_grown hg)
theorem Sure.now {g : Nat} {P : World → Prop} {w : World} (h : Sure g P w) : P w := h w (Keep.refl _ _)
def MemV (g : Nat) (w : World) (v : Value) : Prop := ∃ (A : Option Addr) (n c : Nat) (R : Option Addr) (rn rc : Nat) (rs : List Int) (rows : List (List Int)) (bank : Int), v = memV A n c R rn rc bank ∧ Sure g (fun w => MemRd w A n rs R rn rows) w
theorem st_mem (g : Nat) : Stable (some g) (MemV g) := by
  rintro w w' v hg ⟨A, n, c, R, rn, rc, rs, rows, bank, e, h⟩
  exact ⟨A, n, c, R, rn, rc, rs, rows, bank, e, h.rd hg⟩
theorem ints_tail {w : World} {B m b o : Nat} {xs : List Int} (h : Ints w B (some ⟨b, o, none⟩) (m + 1) xs) : Ints w B (some ⟨b, o + 1, none⟩) m xs.tail := by
  obtain ⟨h1, h2⟩ := h
  have hl : xs.length = m + 1 := by simpa [iv_len] using h1
  refine ⟨by simp [iv_len, hl], fun hm => ?_⟩
  obtain ⟨ad, e, hb, hc⟩ := h2 (by omega)
  injection e with e
  subst e
  refine ⟨_, rfl, hb, fun j u hj => ?_⟩
  have := hc (j + 1) u (by
    match xs, hl with
    | x :: r, _ => simpa [iv] using hj)
  by_cases hj0 : j = 0
  · subst hj0; simpa [Addr.add] using this
  · simpa [Addr.add, hj0, Nat.add_assoc, Nat.add_comm 1 j] using this
section
variable {o : Oper} {a : Act} {w : World} {K : Act → World → Prop} {Q : Exit → Act → World → Prop}
theorem ob_fldM (x : Operand) (f : Nat) {b : Nat} (ho : o.op = .fieldAddr 26 x f) (hf : f < 3) (hx : a.eval x = .pointer (some ⟨b, 0, none⟩)) (h : K (a.put o.dst (.pointer (some ⟨b, f, none⟩))) w) : o.wp Try.prog a w K Q := by
  have hr : (Instr.fieldAt 26 (.pointer (some ⟨b, 0, none⟩)) f).run Try.prog w = .ok (.pointer (some ⟨b, f, none⟩)) w := by
    rcases (show f = 0 ∨ f = 1 ∨ f = 2 by omega) with rfl | rfl | rfl <;> simp [go_sem]
  unfold Oper.wp execOp
  simp only [ho, hx, hr, Sem.run_bind, Sem.run_pure, Result.andThen_ok]
  exact h
theorem ob_loadM (x : Operand) {b j : Nat} {v : Value} (ho : o.op = .load 23 x) (hx : a.eval x = .pointer (some ⟨b, j, none⟩)) (hc : w.cell? ⟨b, j, none⟩ = some v)
    (h : K (a.put o.dst v) w) : o.wp Try.prog a w K Q := by
  have hr : (Instr.loadAt 23 (.pointer (some ⟨b, j, none⟩))).run Try.prog w = .ok v w := by simp [go_sem, hc]
  unfold Oper.wp execOp
  simp only [ho, hx, hr, Sem.run_bind, Sem.run_pure, Result.andThen_ok]
  exact h
end
def all256 (rows : List (List Int)) : Prop := ∀ k, k < rows.length → (rows.getD k []).length = 256
/-- The memory of the call's own while it is drawn: its numbers, its banks. -/
structure MD (w : World) (lo h1 hi : Nat) (rb c : Nat) (rs : List Int) (R : Option Addr) (rc : Nat) (rows : List (List Int)) (vs : List Value) : Prop where
  ram : w.ownsRow lo 3 1 (.slice (some ⟨rb, 0, none⟩) 256 c) 256 (iv rs)
  rom : GOwn w h1 hi R rc rows vs
  lo1 : lo ≤ h1
  out : rb < h1 ∨ hi ≤ rb
  rb2 : all256 rows
theorem MD.rd {w w' : World} {lo h1 hi rb c g : Nat} {rs : List Int} {R : Option Addr} {rc : Nat} {rows : List (List Int)} {vs : List Value} (h : MD w lo h1 hi rb c rs R rc rows vs) (hg : w.grownBy w' (some g)) (hl : g < lo) : MD w' lo h1 hi rb c rs R rc rows vs :=
  ⟨own_rd h.ram hg hl, h.rom.rdM hg (Nat.lt_of_lt_of_le hl h.lo1), h.lo1, h.out, h.rb2⟩
theorem MD.keep {w w' : World} {lo h1 hi rb c g : Nat} {rs : List Int} {R : Option Addr} {rc : Nat} {rows : List (List Int)} {vs : List Value} (h : MD w lo h1 hi rb c rs R rc rows vs) (hk : Keep g w w') (hl : g < lo) : MD w' lo h1 hi rb c rs R rc rows vs :=
  ⟨own_keep h.ram hk hl (by decide), ⟨own_keep h.rom.outer hk (Nat.lt_of_lt_of_le hl h.lo1) (by decide), h.rom.vlen, fun i hi => own_keep (h.rom.inner i hi) hk (Nat.lt_of_lt_of_le hl h.lo1) (by decide), h.rom.olt, h.rom.ilt, h.rom.inc⟩, h.lo1, h.out, h.rb2⟩
theorem MD.below {w w' : World} {lo h1 hi rb c : Nat} {rs : List Int} {R : Option Addr} {rc : Nat} {rows : List (List Int)} {vs : List Value} (h : MD w lo h1 hi rb c rs R rc rows vs) (hb : Below w.heap.size w w') : MD w' lo h1 hi rb c rs R rc rows vs :=
  ⟨own_below h.ram hb, h.rom.below hb, h.lo1, h.out, h.rb2⟩
theorem MD.len {w : World} {lo h1 hi rb c : Nat} {rs : List Int} {R : Option Addr} {rc : Nat} {rows : List (List Int)} {vs : List Value} (h : MD w lo h1 hi rb c rs R rc rows vs) : rs.length = 256 := by
  have := h.ram.1
  simpa [iv_len] using this
/-- A byte is stored. -/
theorem MD.store {w : World} {lo h1 hi rb c : Nat} {rs : List Int} {R : Option Addr} {rc : Nat} {rows : List (List Int)} {vs : List Value} (h : MD w lo h1 hi rb c rs R rc rows vs) (j : Nat) (v : Int) : MD (w.setCell ⟨rb, j, none⟩ (.int .i64 v)) lo h1 hi rb c (rs.set j v) R rc rows vs := by
  obtain ⟨s1, s2⟩ := h.ram.stored j (.int .i64 v)
  have e : iv (rs.set j v) = (iv rs).set j (.int .i64 v) := by simp [iv, List.map_set]
  exact ⟨by rw [e]; exact s1, local_ZG _ _ _ _ _ _ w _ h.rom (by simp [World.setCell]) fun k k1 k2 => Below.heap_setCell w ⟨rb, j, none⟩ _ k (show k ≠ rb by have := h.out; omega), h.lo1, h.out, h.rb2⟩
/-- A cell elsewhere is set. -/
theorem MD.far {w : World} {lo h1 hi rb c : Nat} {rs : List Int} {R : Option Addr} {rc : Nat} {rows : List (List Int)} {vs : List Value} (h : MD w lo h1 hi rb c rs R rc rows vs) {b : Nat} (k : Nat) (v : Value) (hb : b ≠ rb) (ho : b < h1 ∨ hi ≤ b) : MD (w.setCell ⟨b, k, none⟩ v) lo h1 hi rb c rs R rc rows vs :=
  ⟨own_same h.ram fun q hq => Below.heap_setCell w ⟨b, k, none⟩ _ q (show q ≠ b by have e : rb = q := Option.some.inj hq; omega), local_ZG _ _ _ _ _ _ w _ h.rom (by simp [World.setCell]) fun q k1 k2 => Below.heap_setCell w ⟨b, k, none⟩ _ q (show q ≠ b by omega), h.lo1, h.out, h.rb2⟩
theorem MD.sure {w : World} {lo h1 hi rb c g : Nat} {rs : List Int} {R : Option Addr} {rc : Nat} {rows : List (List Int)} {vs : List Value} (h : MD w lo h1 hi rb c rs R rc rows vs) (hl : g < lo) (hr : rows.length ≤ 1000) : Sure g (fun w => MemRd w (some ⟨rb, 0, none⟩) 256 rs R rows.length rows) w := fun w' hg =>
  have q := h.keep hg hl
  ⟨own_ints q.ram, q.rom.rd, by omega, by omega, fun k hk => by have := h.rb2 k hk; omega⟩
theorem MD.sureT {w : World} {lo h1 hi rb c g : Nat} {rs : List Int} {R : Option Addr} {rc : Nat} {rows : List (List Int)} {vs : List Value} (h : MD w lo h1 hi rb c rs R rc rows vs) (hl : g < lo) (hr : rows.length ≤ 1000) : Sure g (fun w => MemRd w (some ⟨rb, 1, none⟩) 255 rs.tail R rows.length rows) w := fun w' hg =>
  have q := h.keep hg hl
  ⟨ints_tail (own_ints q.ram), q.rom.rd, by omega, by omega, fun k hk => by have := h.rb2 k hk; omega⟩
theorem MD.sureN {w : World} {lo h1 hi rb c g b : Nat} {rs : List Int} {R : Option Addr} {rc : Nat} {rows : List (List Int)} {vs : List Value} (h : MD w lo h1 hi rb c rs R rc rows vs) (hl : g < lo) : Sure g (fun w => MemRd w (some ⟨rb, 0, none⟩) 256 rs (some ⟨b, 0, none⟩) 0 []) w := fun w' hg =>
  have q := h.keep hg hl
  ⟨own_ints q.ram, ⟨rfl, [], rfl, ⟨rfl, fun h => absurd h (Nat.lt_irrefl 0)⟩, fun i hi => absurd hi (Nat.not_lt_zero i)⟩, by omega, by omega, fun k hk => absurd hk (Nat.not_lt_zero k)⟩
set_option maxRecDepth 100000 in
set_option maxHeartbeats 4000000 in
theorem l20Memory_any (g : Nat) (A : Option Addr) (len cap p0 : Nat) (n : Int) (w : World) (h : Rd w g A len cap p0) (hp0 : p0 ≤ 600000000) (n0 : 0 ≤ n) (n1 : n ≤ 1000000000) :
    Calls Try.prog 68 #[.pointer (some ⟨g, 0, none⟩), .int .i64 n] w (Draws g A len cap p0 1100 w (MemV g)) := by
  have hgl := h.lt
  have HD := Lib.hid ((Drs.start h).alloc (.cells #[.slice none 0 0, .slice none 0 0, .int .i64 0] 26))
  have HR := Lib.hid (Blk.new w 26 #[.slice none 0 0, .slice none 0 0, .int .i64 0])
  clear h
  go_enter Try.func68, Try.ntmps68
  go_wp2_with fail
  refine (l20Rom_d HD.out (by omega)).mono ?_
  rintro e W' ⟨v, rfl, ⟨Ar, cr, os, ws, rfl, l1, l3, hv, G⟩, hD, hgr⟩
  replace HD := Lib.hid hD
  clear hD
  replace HR := Lib.hid (HR.out.rd hgr (by omega))
  have hs1 := hgr.size
  have hz0 : (w.alloc (.cells #[.slice none 0 0, .slice none 0 0, .int .i64 0] 26)).heap.size = w.heap.size + 1 := by simp
  have HG := Lib.hid G.rd
  have HV := Lib.hid hv
  clear hgr G
  go_wp2_with (go_at_call 92; refine (newMemory_valid Ar os.length cr os _ HG.out HV.out l1 (by omega)).mono ?_; rintro e w3 ⟨A3, c3, R3, rc3, vs3, h1, rfl, M, b3⟩; replace HR := Lib.hid (HR.out.below b3 HR.out.lt); replace HD := Lib.hid (HD.out.below b3); have hs3 := b3.size; have HM3 := Lib.hid M; clear b3 M)
  rcases own_block' HM3.out.ram with ⟨_, h0, _⟩ | ⟨rb, hA3, hrl, hrh⟩
  · omega
  obtain ⟨r2, k1, k2, k3⟩ := HM3.out.rom
  have hlo1 := HM3.out.lo1
  have hmd : MD w3 W'.heap.size h1 r2 rb c3 (List.replicate 256 0) R3 rc3 os vs3 := ⟨hA3 ▸ HM3.out.ram, k3, hlo1, k2 rb (by rw [hA3]; rfl), fun k hk => (rows_get HV.out hk).1⟩
  have HM := Lib.hid (hmd.below ((Below.refl _ _).alloc (Nat.le_refl _) (.cells #[.slice A3 256 c3, .slice R3 os.length rc3, .int .i64 0] 26)))
  have HX := Lib.hid (Blk.new w3 26 #[.slice A3 256 c3, .slice R3 os.length rc3, .int .i64 0])
  replace HR := Lib.hid (HR.out.alloc (.cells #[.slice A3 256 c3, .slice R3 os.length rc3, .int .i64 0] 26))
  replace HD := Lib.hid (HD.out.alloc (.cells #[.slice A3 256 c3, .slice R3 os.length rc3, .int .i64 0] 26))
  have HA3 := Lib.hid hA3
  obtain ⟨lo, hlo⟩ : ∃ lo, lo = W'.heap.size := ⟨_, rfl⟩
  rw [← hlo] at HM hrl hs1 hs3 hlo1
  have hwl : w.heap.size < lo := by omega
  have hgl' : g < lo := by omega
  have hxg : some g ≠ some w3.heap.size := by intro e; injection e with e; omega
  have hl1' : os.length ≤ 1000 := by omega
  have hrn : (1 : Int) ≤ (os.length : Int) := by omega
  have hrn2 : (os.length : Int) ≤ 1000000000 := by omega
  replace hlo := Lib.hid hlo
  replace hz0 := Lib.hid hz0
  have hr2 := k1
  clear hmd k1 k2 k3 hA3 HM3 hs1 HG
  go_wp2_with fail
  refine (pick_d HD.out 6 (by omega) (by omega) (by omega)).mono ?_
  rintro e W' ⟨v, rfl, ⟨x, rfl, x0, x1⟩, hD, hgr⟩
  replace HD := Lib.hid hD
  clear hD
  replace HR := Lib.hid (HR.out.rd hgr (by omega))
  replace HX := Lib.hid (HX.out.rd hgr (by omega))
  replace HM := Lib.hid (HM.out.rd hgr (by omega))
  clear hgr
  obtain ⟨K0, rfl⟩ := Int.eq_ofNat_of_zero_le x0
  have hK0 : K0 ≤ 5 := by omega
  clear x0 x1
  go_wp2_with fail
  go_loopw [6] (fun k wr => ∃ (K : Nat) (rs : List Int), k = .int .i64 K ∧ K ≤ 5 ∧ Blk wr w.heap.size 26 #[.slice none 0 0, .slice none 0 0, .int .i64 0] ∧ Blk wr w3.heap.size 26 #[.slice A3 256 c3, .slice R3 os.length rc3, .int .i64 0] ∧ MD wr lo h1 r2 rb c3 rs R3 rc3 os vs3 ∧ Drs w wr g A len cap p0 (p0 + 1002 + 14 * (5 - K))) (fun k _ => (intOf k).toNat)
  case atStart => exact ⟨K0, _, rfl, hK0, HR.out, HX.out, HM.out, HD.out.more (by omega)⟩
  case round =>
    obtain ⟨K, rs, rfl, hK, hR0, hX0, hM0, hD0⟩ := hrel
    replace HR := Lib.hid hR0
    replace HX := Lib.hid hX0
    replace HM := Lib.hid hM0
    replace HD := Lib.hid hD0
    clear hR0 hX0 hM0 hD0
    by_cases hlt : 0 < K
    · have q1 : (K : Int) > 0 := by omega
      go_upto_region 5 with (fail)
      obtain ⟨p, hp1, hR⟩ := HD.out.rd
      have hp : p ≤ 900000000 := by omega
      refine region_tail 14 (some g) (IsVal (.pointer (some ⟨w3.heap.size, 0, none⟩)) :: IsVal (.slice A3 256 c3) :: IsPtr g :: IntIn (0) (15) :: IsPtr g :: IntIn (0) (15) :: IntIn (240) (255) :: ArrIn g 2 (0) (255) :: IsPtr g :: IntIn (0) (1) :: ElAt g (0) (255) :: IntIn (0) (255) :: IsPtr g :: IntIn (0) (255) :: []) (fun n w' => World.grownBy wr w' (some g) ∧ ∃ p' : Nat, p' + 1 * n ≤ p + 14 ∧ Rd w' g A len cap p') ?_ ?_ ?_ ?_ ?_ ?_ ?_ ?_ ?_ ?_ ?_
      · kernel_rfl
      · exact ⟨st_val _ _, st_val _ _, st_ptr _ _, st_int _ _ _, st_ptr _ _, st_int _ _ _, st_int _ _ _, st_arr _ _ _ _, st_ptr _ _, st_int _ _ _, st_el _ _ _, st_int _ _ _, st_ptr _ _, st_int _ _ _, trivial⟩
      · simp
      · exact of_decide_eq_true (by kernel_rfl)
      · kernel_rfl
      · kernel_rfl
      · kernel_rfl
      · kernel_rfl
      · exact ⟨grown_drew _ _, p, by simp, hR⟩
      · refine each_cons ?_ (each_cons ?_ (each_cons ?_ (each_cons ?_ (each_cons ?_ (each_cons ?_ (each_cons ?_ (each_cons ?_ (each_cons ?_ (each_cons ?_ (each_cons ?_ (each_cons ?_ (each_cons ?_ (each_cons ?_ ( trivial))))))))))))))
        · intro n vs aa w' haa hJ hd K hK
          refine ob_plain rfl ?_
          refine ob_fldM _ 0 (b := w3.heap.size) rfl (by omega) (ev_of haa (by kernel_rfl)) ?_
          refine hK _ _ ?_ (World.grownBy.refl _ _) ⟨hJ.1, by obtain ⟨p', h1, h2⟩ := hJ.2; exact ⟨p', by omega, h2⟩⟩
          show (IsVal (.pointer (some ⟨w3.heap.size, 0, none⟩))) w' _
          exact rfl
        · intro n vs aa w' haa hJ hd K hK
          refine ob_plain rfl ?_
          have d0 : (IsVal (.pointer (some ⟨w3.heap.size, 0, none⟩))) w' (vs 0) := hd.1 rfl
          have e0 := d0
          refine ob_loadM _ (v := .slice A3 256 c3) rfl (Eq.trans (b := vs 0) (ev_of haa (by kernel_rfl)) e0) ((Blk.grown HX.out hJ.1 (Ne.symm hxg)).cell 0) ?_
          refine hK _ _ ?_ (World.grownBy.refl _ _) ⟨hJ.1, by obtain ⟨p', h1, h2⟩ := hJ.2; exact ⟨p', by omega, h2⟩⟩
          show (IsVal (.slice A3 256 c3)) w' _
          exact rfl
        · intro n vs aa w' haa hJ hd K hK
          refine ob_plain rfl ?_
          refine ob_move _ (v := .pointer (some ⟨g, 0, none⟩)) rfl (ev_of haa (by kernel_rfl)) ?_
          refine hK _ _ ?_ (World.grownBy.refl _ _) ⟨hJ.1, by obtain ⟨p', h1, h2⟩ := hJ.2; exact ⟨p', by omega, h2⟩⟩
          show (IsPtr g) w' _
          exact rfl
        · intro n vs aa w' haa hJ hd K hK
          refine ob_plain rfl ?_
          have d2 : (IsPtr g) w' (vs 2) := hd.1 rfl
          have e2 := d2
          obtain ⟨hg', p', hp', hr'⟩ := hJ
          refine ob_call 53 _ _ #[.pointer (some ⟨g, 0, none⟩), .int .i64 (16)] rfl (Eq.trans (b := #[vs 2, .int .i64 (16)]) (evs_of haa (by kernel_rfl)) (by rw [e2])) (fun _ _ => by kernel_rfl) ?_
          refine (pick_any g A len cap p' (16) _ hr' (by omega) (by omega) (by omega)).mono ?_
          rintro e w2 ⟨x, rfl, x0, x1, hr2, hg2⟩
          refine ⟨_, rfl, ?_⟩
          refine hK _ _ ?_ hg2 ⟨hg'.trans hg2, p' + 1, by omega, hr2⟩
          show (IntIn (0) (15)) w' _
          exact ⟨x, rfl, x0, by omega⟩
        · intro n vs aa w' haa hJ hd K hK
          refine ob_plain rfl ?_
          refine ob_move _ (v := .pointer (some ⟨g, 0, none⟩)) rfl (ev_of haa (by kernel_rfl)) ?_
          refine hK _ _ ?_ (World.grownBy.refl _ _) ⟨hJ.1, by obtain ⟨p', h1, h2⟩ := hJ.2; exact ⟨p', by omega, h2⟩⟩
          show (IsPtr g) w' _
          exact rfl
        · intro n vs aa w' haa hJ hd K hK
          refine ob_plain rfl ?_
          have d4 : (IsPtr g) w' (vs 4) := hd.1 rfl
          have e4 := d4
          obtain ⟨hg', p', hp', hr'⟩ := hJ
          refine ob_call 53 _ _ #[.pointer (some ⟨g, 0, none⟩), .int .i64 (16)] rfl (Eq.trans (b := #[vs 4, .int .i64 (16)]) (evs_of haa (by kernel_rfl)) (by rw [e4])) (fun _ _ => by kernel_rfl) ?_
          refine (pick_any g A len cap p' (16) _ hr' (by omega) (by omega) (by omega)).mono ?_
          rintro e w2 ⟨x, rfl, x0, x1, hr2, hg2⟩
          refine ⟨_, rfl, ?_⟩
          refine hK _ _ ?_ hg2 ⟨hg'.trans hg2, p' + 1, by omega, hr2⟩
          show (IntIn (0) (15)) w' _
          exact ⟨x, rfl, x0, by omega⟩
        · intro n vs aa w' haa hJ hd K hK
          refine ob_plain rfl ?_
          have d5 : (IntIn (0) (15)) w' (vs 5) := hd.1 rfl
          obtain ⟨x5, e5, l5, u5⟩ := d5
          refine ob_add _ _ (u := (240)) (v := x5) rfl (ev_of haa (by kernel_rfl)) (Eq.trans (b := vs 5) (ev_of haa (by kernel_rfl)) e5) (by omega) ?_
          refine hK _ _ ?_ (World.grownBy.refl _ _) ⟨hJ.1, by obtain ⟨p', h1, h2⟩ := hJ.2; exact ⟨p', by omega, h2⟩⟩
          show (IntIn (240) (255)) w' _
          exact ⟨_, rfl, by omega, by omega⟩
        · intro n vs aa w' haa hJ hd K hK
          refine ob_plain rfl ?_
          have d3 : (IntIn (0) (15)) w' (vs 3) := hd.1 rfl
          obtain ⟨x3, e3, l3, u3⟩ := d3
          have d6 : (IntIn (240) (255)) w' (vs 6) := hd.2.1 rfl
          obtain ⟨x6, e6, l6, u6⟩ := d6
          refine ob_build2 _ _ (u0 := x3) (u1 := x6) rfl (Eq.trans (b := vs 3) (ev_of haa (by kernel_rfl)) e3) (Eq.trans (b := vs 6) (ev_of haa (by kernel_rfl)) e6) ?_
          refine hK _ _ ⟨_, rfl, Nat.ne_of_gt hJ.2.choose_spec.2.lt, by simp, fun k hk => ?_⟩ (World.grownBy_alloc _ _ _) ⟨hJ.1.trans (World.grownBy_alloc _ _ _), by obtain ⟨p', h1, h2⟩ := hJ.2; exact ⟨p', by omega, h2.alloc _⟩⟩
          match k, hk with
          | 0, _ => exact ⟨x3, by simp [go_sem], by omega, by omega⟩
          | 1, _ => exact ⟨x6, by simp [go_sem], by omega, by omega⟩
        · intro n vs aa w' haa hJ hd K hK
          refine ob_plain rfl ?_
          refine ob_move _ (v := .pointer (some ⟨g, 0, none⟩)) rfl (ev_of haa (by kernel_rfl)) ?_
          refine hK _ _ ?_ (World.grownBy.refl _ _) ⟨hJ.1, by obtain ⟨p', h1, h2⟩ := hJ.2; exact ⟨p', by omega, h2⟩⟩
          show (IsPtr g) w' _
          exact rfl
        · intro n vs aa w' haa hJ hd K hK
          refine ob_plain rfl ?_
          have d8 : (IsPtr g) w' (vs 8) := hd.1 rfl
          have e8 := d8
          obtain ⟨hg', p', hp', hr'⟩ := hJ
          refine ob_call 53 _ _ #[.pointer (some ⟨g, 0, none⟩), .int .i64 (2)] rfl (Eq.trans (b := #[vs 8, .int .i64 (2)]) (evs_of haa (by kernel_rfl)) (by rw [e8])) (fun _ _ => by kernel_rfl) ?_
          refine (pick_any g A len cap p' (2) _ hr' (by omega) (by omega) (by omega)).mono ?_
          rintro e w2 ⟨x, rfl, x0, x1, hr2, hg2⟩
          refine ⟨_, rfl, ?_⟩
          refine hK _ _ ?_ hg2 ⟨hg'.trans hg2, p' + 1, by omega, hr2⟩
          show (IntIn (0) (1)) w' _
          exact ⟨x, rfl, x0, by omega⟩
        · intro n vs aa w' haa hJ hd K hK
          refine ob_plain rfl ?_
          have d7 : (ArrIn g 2 (0) (255)) w' (vs 7) := hd.1 rfl
          obtain ⟨b7, e7, n7, z7, c7⟩ := d7
          have d9 : (IntIn (0) (1)) w' (vs 9) := hd.2.1 rfl
          obtain ⟨x9, e9, l9, u9⟩ := d9
          refine ob_index _ _ _ (by simp) (u := x9) rfl (Eq.trans (b := vs 7) (ev_of haa (by kernel_rfl)) e7) (Eq.trans (b := vs 9) (ev_of haa (by kernel_rfl)) e9) (by omega) (by omega) ?_
          obtain ⟨y, hy, y0, y1⟩ := c7 x9.toNat (by omega)
          refine hK _ _ ?_ (World.grownBy.refl _ _) ⟨hJ.1, by obtain ⟨p', h1, h2⟩ := hJ.2; exact ⟨p', by omega, h2⟩⟩
          show (ElAt g (0) (255)) w' _
          exact ⟨b7, _, rfl, n7, z7, y, by rw [Nat.zero_add]; exact hy, y0, y1⟩
        · intro n vs aa w' haa hJ hd K hK
          refine ob_plain rfl ?_
          have d10 : (ElAt g (0) (255)) w' (vs 10) := hd.1 rfl
          obtain ⟨b10, j10, e10, n10, z10, x10, c10, l10, u10⟩ := d10
          refine ob_load _ _ (by simp) rfl (Eq.trans (b := vs 10) (ev_of haa (by kernel_rfl)) e10) c10 ?_
          refine hK _ _ ?_ (World.grownBy.refl _ _) ⟨hJ.1, by obtain ⟨p', h1, h2⟩ := hJ.2; exact ⟨p', by omega, h2⟩⟩
          show (IntIn (0) (255)) w' _
          exact ⟨_, rfl, l10, u10⟩
        · intro n vs aa w' haa hJ hd K hK
          refine ob_plain rfl ?_
          refine ob_move _ (v := .pointer (some ⟨g, 0, none⟩)) rfl (ev_of haa (by kernel_rfl)) ?_
          refine hK _ _ ?_ (World.grownBy.refl _ _) ⟨hJ.1, by obtain ⟨p', h1, h2⟩ := hJ.2; exact ⟨p', by omega, h2⟩⟩
          show (IsPtr g) w' _
          exact rfl
        · intro n vs aa w' haa hJ hd K hK
          refine ob_plain rfl ?_
          have d12 : (IsPtr g) w' (vs 12) := hd.1 rfl
          have e12 := d12
          obtain ⟨hg', p', hp', hr'⟩ := hJ
          refine ob_call 53 _ _ #[.pointer (some ⟨g, 0, none⟩), .int .i64 (256)] rfl (Eq.trans (b := #[vs 12, .int .i64 (256)]) (evs_of haa (by kernel_rfl)) (by rw [e12])) (fun _ _ => by kernel_rfl) ?_
          refine (pick_any g A len cap p' (256) _ hr' (by omega) (by omega) (by omega)).mono ?_
          rintro e w2 ⟨x, rfl, x0, x1, hr2, hg2⟩
          refine ⟨_, rfl, ?_⟩
          refine hK _ _ ?_ hg2 ⟨hg'.trans hg2, p' + 1, by omega, hr2⟩
          show (IntIn (0) (255)) w' _
          exact ⟨x, rfl, x0, by omega⟩
      intro vs w' hJ hall
      obtain ⟨X, hX, X0, X1⟩ : IntIn 0 255 w' (vs 11) := hall 11 (by decide)
      obtain ⟨Y, hY, Y0, Y1⟩ : IntIn 0 255 w' (vs 13) := hall 13 (by decide)
      have hz : vs 1 = .slice (some ⟨rb, 0, none⟩) 256 c3 := by rw [← HA3.out]; exact hall 1 (by decide)
      clear hall
      obtain ⟨hgr, p', hp', hr'⟩ := hJ
      replace HD := Lib.hid (HD.out.step hgr ⟨p', hp', hr'⟩)
      replace HR := Lib.hid (HR.out.rd hgr (by omega))
      replace HX := Lib.hid (HX.out.rd hgr (by omega))
      replace HM := Lib.hid (HM.out.rd hgr (by omega))
      clear hgr
      clear hr' hR
      obtain ⟨J, rfl⟩ := Int.eq_ofNat_of_zero_le X0
      have J1 : (J : Int) < 256 := by omega
      obtain ⟨u0, cu⟩ : ∃ u, w'.cell? ⟨rb, J, none⟩ = some u := ⟨_, (HM.out.ram.cellAt J (by omega)).trans (List.getElem?_eq_getElem (by have := HM.out.ram.1; omega))⟩
      have fu := HM.out.ram.frozenAt (g := rb) J
      simp only [List.take_succ_cons, List.take_zero, List.drop_succ_cons, List.drop_zero, fill, Act.put, List.toList_toArray, List.setIfInBounds_toArray, List.set_cons_zero, List.set_cons_succ, Nat.zero_add, Nat.reduceAdd, hX, hY, hz]
      go_wp2_with fail
      replace HD := Lib.hid (HD.out.set ⟨rb, J, none⟩ (.int .i64 Y) (show w.heap.size ≤ rb by omega))
      replace HR := Lib.hid (HR.out.far (p := ⟨rb, J, none⟩) (show w.heap.size ≠ rb by omega) (.int .i64 Y))
      replace HX := Lib.hid (HX.out.far (p := ⟨rb, J, none⟩) (show w3.heap.size ≠ rb by omega) (.int .i64 Y))
      replace HM := Lib.hid (HM.out.store J Y)
      go_roundw
      case rel => exact ⟨K - 1, rs.set J Y, by rw [show (K : Int) - 1 = ((K - 1 : Nat) : Int) by omega], by omega, HR.out, HX.out, HM.out, HD.out.more (by omega)⟩
      case measure => simp [intOf]; omega
    · obtain rfl : K = 0 := by omega
      have q1 : ¬ ((0 : Nat) : Int) > 0 := by omega
      have x0 := HX.out.cell 0
      have x1 := HX.out.cell 1
      have x2 := HX.out.cell 2
      have y0 := HX.out.frozen 0
      have y1 := HX.out.frozen 1
      have y2 := HX.out.frozen 2
      have hxl := HX.out.lt
      go_wp2_with fail
      refine (pick_d HD.out (os.length : Int) (by omega) hrn hrn2).mono ?_
      rintro e W' ⟨v, rfl, ⟨bk, rfl, b0, b1⟩, hD, hgr⟩
      replace HD := Lib.hid hD
      clear hD
      replace HR := Lib.hid (HR.out.rd hgr (by omega))
      replace HX := Lib.hid (HX.out.rd hgr (by omega))
      replace HM := Lib.hid (HM.out.rd hgr (by omega))
      clear hgr
      have x0 := HX.out.cell 0
      have x1 := HX.out.cell 1
      have x2 := HX.out.cell 2
      have y0 := HX.out.frozen 0
      have y1 := HX.out.frozen 1
      have y2 := HX.out.frozen 2
      have hxl := HX.out.lt
      have HX' := Lib.hid (HX.out.set_ 2 (.int .i64 bk))
      replace HD := Lib.hid (HD.out.set ⟨w3.heap.size, 2, none⟩ (.int .i64 bk) (show w.heap.size ≤ w3.heap.size by omega))
      replace HR := Lib.hid (HR.out.far (p := ⟨w3.heap.size, 2, none⟩) (show w.heap.size ≠ w3.heap.size by omega) (.int .i64 bk))
      replace HM := Lib.hid (HM.out.far (b := w3.heap.size) 2 (.int .i64 bk) (by omega) (.inr hr2))
      replace HX := HX'
      clear HX'
      go_wp2_with fail
      refine (odd_d HD.out n (by omega) n0 n1).mono ?_
      rintro e W' ⟨v, rfl, ⟨b, rfl, hb⟩, hD, hgr⟩
      replace HD := Lib.hid hD
      clear hD
      replace HR := Lib.hid (HR.out.rd hgr (by omega))
      replace HX := Lib.hid (HX.out.rd hgr (by omega))
      replace HM := Lib.hid (HM.out.rd hgr (by omega))
      clear hgr
      clear hb
      cases b
      · have x0 := HX.out.cell 0
        have x1 := HX.out.cell 1
        have x2 := HX.out.cell 2
        have y0 := HX.out.frozen 0
        have y1 := HX.out.frozen 1
        have y2 := HX.out.frozen 2
        have hxl := HX.out.lt
        have v0 := HR.out.cell 0
        have v1 := HR.out.cell 1
        have v2 := HR.out.cell 2
        have w0 := HR.out.frozen 0
        have w1 := HR.out.frozen 1
        have w2 := HR.out.frozen 2
        have hrlt := HR.out.lt
        go_wp2_with fail
        refine bodyPost_ret (results_cell_row Try.results68 _ _ w.heap.size 26 #[.slice A3 256 c3, .slice R3 os.length rc3, .int .i64 bk] (0, 0) _ rfl (((HR.out.set_ 0 _).set_ 1 _).set_ 2 _) Try.underlying26 rfl rfl) rfl ?_
        exact draws_of (((HD.out.set _ _ (Nat.le_refl _)).set _ _ (Nat.le_refl _)).set _ _ (Nat.le_refl _)) (by omega) ⟨A3, 256, c3, R3, os.length, rc3, rs, os, bk, rfl, by rw [HA3.out]; exact ((((HM.out.far (b := w.heap.size) 0 _ (by omega) (.inl (by omega))).far (b := w.heap.size) 1 _ (by omega) (.inl (by omega))).far (b := w.heap.size) 2 _ (by omega) (.inl (by omega))).sure hgl' hl1')⟩
      go_wp2_with fail
      refine (pick_d HD.out 4 (by omega) (by omega) (by omega)).mono ?_
      rintro e W' ⟨v, rfl, ⟨z, rfl, z0, z1⟩, hD, hgr⟩
      replace HD := Lib.hid hD
      clear hD
      replace HR := Lib.hid (HR.out.rd hgr (by omega))
      replace HX := Lib.hid (HX.out.rd hgr (by omega))
      replace HM := Lib.hid (HM.out.rd hgr (by omega))
      clear hgr
      by_cases e0 : z = 0
      · subst e0
        clear z0 z1
        go_upto_region 11 with (fail)
        obtain ⟨p, hp1, hR⟩ := HD.out.rd
        have hp : p ≤ 900000000 := by omega
        refine region_tail 9 (some g) (IsVal (.pointer (some ⟨w3.heap.size, 0, none⟩)) :: IsVal (.slice A3 256 c3) :: IsPtr g :: IntIn (0) (255) :: ArrIn g 2 (-1) (256) :: IsPtr g :: IntIn (0) (1) :: ElAt g (-1) (256) :: IntIn (-1) (256) :: []) (fun n w' => World.grownBy W' w' (some g) ∧ ∃ p' : Nat, p' + 1 * n ≤ p + 9 ∧ Rd w' g A len cap p') ?_ ?_ ?_ ?_ ?_ ?_ ?_ ?_ ?_ ?_ ?_
        · kernel_rfl
        · exact ⟨st_val _ _, st_val _ _, st_ptr _ _, st_int _ _ _, st_arr _ _ _ _, st_ptr _ _, st_int _ _ _, st_el _ _ _, st_int _ _ _, trivial⟩
        · simp
        · exact of_decide_eq_true (by kernel_rfl)
        · kernel_rfl
        · kernel_rfl
        · kernel_rfl
        · kernel_rfl
        · exact ⟨grown_drew _ _, p, by simp, hR⟩
        · refine each_cons ?_ (each_cons ?_ (each_cons ?_ (each_cons ?_ (each_cons ?_ (each_cons ?_ (each_cons ?_ (each_cons ?_ (each_cons ?_ ( trivial)))))))))
          · intro n vs aa w' haa hJ hd K hK
            refine ob_plain rfl ?_
            refine ob_fldM _ 0 (b := w3.heap.size) rfl (by omega) (ev_of haa (by kernel_rfl)) ?_
            refine hK _ _ ?_ (World.grownBy.refl _ _) ⟨hJ.1, by obtain ⟨p', h1, h2⟩ := hJ.2; exact ⟨p', by omega, h2⟩⟩
            show (IsVal (.pointer (some ⟨w3.heap.size, 0, none⟩))) w' _
            exact rfl
          · intro n vs aa w' haa hJ hd K hK
            refine ob_plain rfl ?_
            have d0 : (IsVal (.pointer (some ⟨w3.heap.size, 0, none⟩))) w' (vs 0) := hd.1 rfl
            have e0 := d0
            refine ob_loadM _ (v := .slice A3 256 c3) rfl (Eq.trans (b := vs 0) (ev_of haa (by kernel_rfl)) e0) ((Blk.grown HX.out hJ.1 (Ne.symm hxg)).cell 0) ?_
            refine hK _ _ ?_ (World.grownBy.refl _ _) ⟨hJ.1, by obtain ⟨p', h1, h2⟩ := hJ.2; exact ⟨p', by omega, h2⟩⟩
            show (IsVal (.slice A3 256 c3)) w' _
            exact rfl
          · intro n vs aa w' haa hJ hd K hK
            refine ob_plain rfl ?_
            refine ob_move _ (v := .pointer (some ⟨g, 0, none⟩)) rfl (ev_of haa (by kernel_rfl)) ?_
            refine hK _ _ ?_ (World.grownBy.refl _ _) ⟨hJ.1, by obtain ⟨p', h1, h2⟩ := hJ.2; exact ⟨p', by omega, h2⟩⟩
            show (IsPtr g) w' _
            exact rfl
          · intro n vs aa w' haa hJ hd K hK
            refine ob_plain rfl ?_
            have d2 : (IsPtr g) w' (vs 2) := hd.1 rfl
            have e2 := d2
            obtain ⟨hg', p', hp', hr'⟩ := hJ
            refine ob_call 53 _ _ #[.pointer (some ⟨g, 0, none⟩), .int .i64 (256)] rfl (Eq.trans (b := #[vs 2, .int .i64 (256)]) (evs_of haa (by kernel_rfl)) (by rw [e2])) (fun _ _ => by kernel_rfl) ?_
            refine (pick_any g A len cap p' (256) _ hr' (by omega) (by omega) (by omega)).mono ?_
            rintro e w2 ⟨x, rfl, x0, x1, hr2, hg2⟩
            refine ⟨_, rfl, ?_⟩
            refine hK _ _ ?_ hg2 ⟨hg'.trans hg2, p' + 1, by omega, hr2⟩
            show (IntIn (0) (255)) w' _
            exact ⟨x, rfl, x0, by omega⟩
          · intro n vs aa w' haa hJ hd K hK
            refine ob_plain rfl ?_
            refine ob_build2 _ _ (u0 := (-1)) (u1 := (256)) rfl (ev_of haa (by kernel_rfl)) (ev_of haa (by kernel_rfl)) ?_
            refine hK _ _ ⟨_, rfl, Nat.ne_of_gt hJ.2.choose_spec.2.lt, by simp, fun k hk => ?_⟩ (World.grownBy_alloc _ _ _) ⟨hJ.1.trans (World.grownBy_alloc _ _ _), by obtain ⟨p', h1, h2⟩ := hJ.2; exact ⟨p', by omega, h2.alloc _⟩⟩
            match k, hk with
            | 0, _ => exact ⟨(-1), by simp [go_sem], by omega, by omega⟩
            | 1, _ => exact ⟨(256), by simp [go_sem], by omega, by omega⟩
          · intro n vs aa w' haa hJ hd K hK
            refine ob_plain rfl ?_
            refine ob_move _ (v := .pointer (some ⟨g, 0, none⟩)) rfl (ev_of haa (by kernel_rfl)) ?_
            refine hK _ _ ?_ (World.grownBy.refl _ _) ⟨hJ.1, by obtain ⟨p', h1, h2⟩ := hJ.2; exact ⟨p', by omega, h2⟩⟩
            show (IsPtr g) w' _
            exact rfl
          · intro n vs aa w' haa hJ hd K hK
            refine ob_plain rfl ?_
            have d5 : (IsPtr g) w' (vs 5) := hd.1 rfl
            have e5 := d5
            obtain ⟨hg', p', hp', hr'⟩ := hJ
            refine ob_call 53 _ _ #[.pointer (some ⟨g, 0, none⟩), .int .i64 (2)] rfl (Eq.trans (b := #[vs 5, .int .i64 (2)]) (evs_of haa (by kernel_rfl)) (by rw [e5])) (fun _ _ => by kernel_rfl) ?_
            refine (pick_any g A len cap p' (2) _ hr' (by omega) (by omega) (by omega)).mono ?_
            rintro e w2 ⟨x, rfl, x0, x1, hr2, hg2⟩
            refine ⟨_, rfl, ?_⟩
            refine hK _ _ ?_ hg2 ⟨hg'.trans hg2, p' + 1, by omega, hr2⟩
            show (IntIn (0) (1)) w' _
            exact ⟨x, rfl, x0, by omega⟩
          · intro n vs aa w' haa hJ hd K hK
            refine ob_plain rfl ?_
            have d4 : (ArrIn g 2 (-1) (256)) w' (vs 4) := hd.1 rfl
            obtain ⟨b4, e4, n4, z4, c4⟩ := d4
            have d6 : (IntIn (0) (1)) w' (vs 6) := hd.2.1 rfl
            obtain ⟨x6, e6, l6, u6⟩ := d6
            refine ob_index _ _ _ (by simp) (u := x6) rfl (Eq.trans (b := vs 4) (ev_of haa (by kernel_rfl)) e4) (Eq.trans (b := vs 6) (ev_of haa (by kernel_rfl)) e6) (by omega) (by omega) ?_
            obtain ⟨y, hy, y0, y1⟩ := c4 x6.toNat (by omega)
            refine hK _ _ ?_ (World.grownBy.refl _ _) ⟨hJ.1, by obtain ⟨p', h1, h2⟩ := hJ.2; exact ⟨p', by omega, h2⟩⟩
            show (ElAt g (-1) (256)) w' _
            exact ⟨b4, _, rfl, n4, z4, y, by rw [Nat.zero_add]; exact hy, y0, y1⟩
          · intro n vs aa w' haa hJ hd K hK
            refine ob_plain rfl ?_
            have d7 : (ElAt g (-1) (256)) w' (vs 7) := hd.1 rfl
            obtain ⟨b7, j7, e7, n7, z7, x7, c7, l7, u7⟩ := d7
            refine ob_load _ _ (by simp) rfl (Eq.trans (b := vs 7) (ev_of haa (by kernel_rfl)) e7) c7 ?_
            refine hK _ _ ?_ (World.grownBy.refl _ _) ⟨hJ.1, by obtain ⟨p', h1, h2⟩ := hJ.2; exact ⟨p', by omega, h2⟩⟩
            show (IntIn (-1) (256)) w' _
            exact ⟨_, rfl, l7, u7⟩
        intro vs w' hJ hall
        obtain ⟨X, hX, X0, X1⟩ : IntIn 0 255 w' (vs 3) := hall 3 (by decide)
        obtain ⟨Y, hY, Y0, Y1⟩ : IntIn (-1) 256 w' (vs 8) := hall 8 (by decide)
        have hz : vs 1 = .slice (some ⟨rb, 0, none⟩) 256 c3 := by rw [← HA3.out]; exact hall 1 (by decide)
        clear hall
        obtain ⟨hgr, p', hp', hr'⟩ := hJ
        replace HD := Lib.hid (HD.out.step hgr ⟨p', hp', hr'⟩)
        replace HR := Lib.hid (HR.out.rd hgr (by omega))
        replace HX := Lib.hid (HX.out.rd hgr (by omega))
        replace HM := Lib.hid (HM.out.rd hgr (by omega))
        clear hgr
        clear hr' hR
        obtain ⟨J, rfl⟩ := Int.eq_ofNat_of_zero_le X0
        have J1 : (J : Int) < 256 := by omega
        obtain ⟨u0, cu⟩ : ∃ u, w'.cell? ⟨rb, J, none⟩ = some u := ⟨_, (HM.out.ram.cellAt J (by omega)).trans (List.getElem?_eq_getElem (by have := HM.out.ram.1; omega))⟩
        have fu := HM.out.ram.frozenAt (g := rb) J
        have x0 := HX.out.cell 0
        have x1 := HX.out.cell 1
        have x2 := HX.out.cell 2
        have y0 := HX.out.frozen 0
        have y1 := HX.out.frozen 1
        have y2 := HX.out.frozen 2
        have hxl := HX.out.lt
        have v0 := HR.out.cell 0
        have v1 := HR.out.cell 1
        have v2 := HR.out.cell 2
        have w0 := HR.out.frozen 0
        have w1 := HR.out.frozen 1
        have w2 := HR.out.frozen 2
        have hrlt := HR.out.lt
        have nx : ¬ w3.heap.size = rb := by omega
        have nx' : ¬ rb = w3.heap.size := by omega
        have nr : ¬ w.heap.size = rb := by omega
        have nr' : ¬ rb = w.heap.size := by omega
        simp only [List.take_succ_cons, List.take_zero, List.drop_succ_cons, List.drop_zero, fill, Act.put, List.toList_toArray, List.setIfInBounds_toArray, List.set_cons_zero, List.set_cons_succ, Nat.zero_add, Nat.reduceAdd, hX, hY, hz]
        replace HD := Lib.hid (HD.out.set ⟨rb, J, none⟩ (.int .i64 Y) (show w.heap.size ≤ rb by omega))
        replace HR := Lib.hid (HR.out.far (p := ⟨rb, J, none⟩) (show w.heap.size ≠ rb by omega) (.int .i64 Y))
        replace HX := Lib.hid (HX.out.far (p := ⟨rb, J, none⟩) (show w3.heap.size ≠ rb by omega) (.int .i64 Y))
        replace HM := Lib.hid (HM.out.store J Y)
        have x0 := HX.out.cell 0
        have x1 := HX.out.cell 1
        have x2 := HX.out.cell 2
        have y0 := HX.out.frozen 0
        have y1 := HX.out.frozen 1
        have y2 := HX.out.frozen 2
        have hxl := HX.out.lt
        have v0 := HR.out.cell 0
        have v1 := HR.out.cell 1
        have v2 := HR.out.cell 2
        have w0 := HR.out.frozen 0
        have w1 := HR.out.frozen 1
        have w2 := HR.out.frozen 2
        have hrlt := HR.out.lt
        go_wp2_with fail
        refine bodyPost_ret (results_cell_row Try.results68 _ _ w.heap.size 26 #[.slice A3 256 c3, .slice R3 os.length rc3, .int .i64 bk] (0, 0) _ rfl (((HR.out.set_ 0 _).set_ 1 _).set_ 2 _) Try.underlying26 rfl rfl) rfl ?_
        exact draws_of (((HD.out.set _ _ (Nat.le_refl _)).set _ _ (Nat.le_refl _)).set _ _ (Nat.le_refl _)) (by omega) ⟨A3, 256, c3, R3, os.length, rc3, rs.set J Y, os, bk, rfl, by rw [HA3.out]; exact ((((HM.out.far (b := w.heap.size) 0 _ (by omega) (.inl (by omega))).far (b := w.heap.size) 1 _ (by omega) (.inl (by omega))).far (b := w.heap.size) 2 _ (by omega) (.inl (by omega))).sure hgl' hl1')⟩
      by_cases e1 : z = 1
      · subst e1
        clear z0 z1 e0
        have hcap : (256 : Int) ≤ (c3 : Int) := by have := own_cap HM.out.ram; omega
        have hcap1 : 1 ≤ c3 := by omega
        have hXs := HX.out
        rw [HA3.out] at hXs
        replace HX := Lib.hid hXs
        clear hXs
        have x0 := HX.out.cell 0
        have x1 := HX.out.cell 1
        have x2 := HX.out.cell 2
        have y0 := HX.out.frozen 0
        have y1 := HX.out.frozen 1
        have y2 := HX.out.frozen 2
        have hxl := HX.out.lt
        have v0 := HR.out.cell 0
        have v1 := HR.out.cell 1
        have v2 := HR.out.cell 2
        have w0 := HR.out.frozen 0
        have w1 := HR.out.frozen 1
        have w2 := HR.out.frozen 2
        have hrlt := HR.out.lt
        have nx : ¬ w3.heap.size = w.heap.size := by omega
        have nx' : ¬ w.heap.size = w3.heap.size := by omega
        go_wp2_with fail
        replace HD := Lib.hid (HD.out.set ⟨w3.heap.size, 0, none⟩ (.slice (some ⟨rb, 1, none⟩) 255 (c3 - 1)) (show w.heap.size ≤ w3.heap.size by omega))
        replace HR := Lib.hid (HR.out.far (p := ⟨w3.heap.size, 0, none⟩) (show w.heap.size ≠ w3.heap.size by omega) (.slice (some ⟨rb, 1, none⟩) 255 (c3 - 1)))
        replace HM := Lib.hid (HM.out.far (b := w3.heap.size) 0 (.slice (some ⟨rb, 1, none⟩) 255 (c3 - 1)) (by omega) (.inr hr2))
        refine bodyPost_ret (results_cell_row Try.results68 _ _ w.heap.size 26 #[.slice (some ⟨rb, 1, none⟩) 255 (c3 - 1), .slice R3 os.length rc3, .int .i64 bk] (0, 0) _ rfl (((HR.out.set_ 0 _).set_ 1 _).set_ 2 _) Try.underlying26 rfl rfl) rfl ?_
        refine draws_of (((HD.out.set _ _ (Nat.le_refl _)).set _ _ (Nat.le_refl _)).set _ _ (Nat.le_refl _)) (by omega) ?_
        exact ⟨_, 255, c3 - 1, R3, os.length, rc3, rs.tail, os, bk, rfl, (((HM.out.far (b := w.heap.size) 0 _ (by omega) (.inl (by omega))).far (b := w.heap.size) 1 _ (by omega) (.inl (by omega))).far (b := w.heap.size) 2 _ (by omega) (.inl (by omega))).sureT hgl' hl1'⟩
      by_cases e2 : z = 2
      · subst e2
        clear z0 z1 e0 e1
        have x0 := HX.out.cell 0
        have x1 := HX.out.cell 1
        have x2 := HX.out.cell 2
        have y0 := HX.out.frozen 0
        have y1 := HX.out.frozen 1
        have y2 := HX.out.frozen 2
        have hxl := HX.out.lt
        have v0 := HR.out.cell 0
        have v1 := HR.out.cell 1
        have v2 := HR.out.cell 2
        have w0 := HR.out.frozen 0
        have w1 := HR.out.frozen 1
        have w2 := HR.out.frozen 2
        have hrlt := HR.out.lt
        have nx : ¬ w3.heap.size = w.heap.size := by omega
        have nx' : ¬ w.heap.size = w3.heap.size := by omega
        go_wp2_with fail
        replace HD := Lib.hid (HD.out.set ⟨w3.heap.size, 2, none⟩ (.int .i64 (os.length : Int)) (show w.heap.size ≤ w3.heap.size by omega))
        replace HR := Lib.hid (HR.out.far (p := ⟨w3.heap.size, 2, none⟩) (show w.heap.size ≠ w3.heap.size by omega) (.int .i64 (os.length : Int)))
        replace HM := Lib.hid (HM.out.far (b := w3.heap.size) 2 (.int .i64 (os.length : Int)) (by omega) (.inr hr2))
        refine bodyPost_ret (results_cell_row Try.results68 _ _ w.heap.size 26 #[.slice A3 256 c3, .slice R3 os.length rc3, .int .i64 (os.length : Int)] (0, 0) _ rfl (((HR.out.set_ 0 _).set_ 1 _).set_ 2 _) Try.underlying26 rfl rfl) rfl ?_
        refine draws_of (((HD.out.set _ _ (Nat.le_refl _)).set _ _ (Nat.le_refl _)).set _ _ (Nat.le_refl _)) (by omega) ?_
        exact ⟨A3, 256, c3, R3, os.length, rc3, rs, os, _, rfl, by rw [HA3.out]; exact ((((HM.out.far (b := w.heap.size) 0 _ (by omega) (.inl (by omega))).far (b := w.heap.size) 1 _ (by omega) (.inl (by omega))).far (b := w.heap.size) 2 _ (by omega) (.inl (by omega))).sure hgl' hl1')⟩
      · have f0 : (z == 0) = false := by simp; omega
        have f1 : (z == 1) = false := by simp; omega
        have f2 : (z == 2) = false := by simp; omega
        have x0 := HX.out.cell 0
        have x1 := HX.out.cell 1
        have x2 := HX.out.cell 2
        have y0 := HX.out.frozen 0
        have y1 := HX.out.frozen 1
        have y2 := HX.out.frozen 2
        have hxl := HX.out.lt
        have v0 := HR.out.cell 0
        have v1 := HR.out.cell 1
        have v2 := HR.out.cell 2
        have w0 := HR.out.frozen 0
        have w1 := HR.out.frozen 1
        have w2 := HR.out.frozen 2
        have hrlt := HR.out.lt
        have nx : ¬ w3.heap.size = w.heap.size := by omega
        have nx' : ¬ w.heap.size = w3.heap.size := by omega
        go_wp2_with fail
        obtain ⟨nb, hnb⟩ : ∃ nb, nb = W'.heap.size := ⟨_, rfl⟩
        rw [← hnb]
        replace HD := Lib.hid (HD.out.set ⟨w3.heap.size, 1, none⟩ (.slice (some ⟨nb, 0, none⟩) 0 0) (show w.heap.size ≤ w3.heap.size by omega))
        replace HR := Lib.hid (HR.out.far (p := ⟨w3.heap.size, 1, none⟩) (show w.heap.size ≠ w3.heap.size by omega) (.slice (some ⟨nb, 0, none⟩) 0 0))
        replace HM := Lib.hid (HM.out.far (b := w3.heap.size) 1 (.slice (some ⟨nb, 0, none⟩) 0 0) (by omega) (.inr hr2))
        refine bodyPost_ret (results_cell_row Try.results68 _ _ w.heap.size 26 #[.slice A3 256 c3, .slice (some ⟨nb, 0, none⟩) 0 0, .int .i64 bk] (0, 0) _ rfl ((((HR.out.set_ 0 _).set_ 1 _).set_ 2 _).alloc _) Try.underlying26 rfl rfl) rfl ?_
        refine draws_of ((((HD.out.set _ _ (Nat.le_refl _)).set _ _ (Nat.le_refl _)).set _ _ (Nat.le_refl _)).alloc _) (by omega) ?_
        exact ⟨A3, 256, c3, some ⟨nb, 0, none⟩, 0, 0, rs, [], bk, rfl, by rw [HA3.out]; exact (((((HM.out.far (b := w.heap.size) 0 _ (by omega) (.inl (by omega))).far (b := w.heap.size) 1 _ (by omega) (.inl (by omega))).far (b := w.heap.size) 2 _ (by omega) (.inl (by omega)))).below ((Below.refl _ _).alloc (Nat.le_refl _) _)).sureN hgl'⟩
theorem l20Memory_d {w W : World} {g len cap p0 q : Nat} {A : Option Addr} (h : Drs w W g A len cap p0 q) (n : Int) (hq : q ≤ 600000000) (h0 : 0 ≤ n) (h1 : n ≤ 1000000000) :
    Calls Try.prog 68 #[.pointer (some ⟨g, 0, none⟩), .int .i64 n] W (Dr w W g A len cap p0 (q + 1100) (MemV g)) :=
  dr_of h 600000000 hq fun p hp hR => l20Memory_any g A len cap p n W hR hp h0 h1
end Go.Proofs.Ytgedfcccflobmaa
