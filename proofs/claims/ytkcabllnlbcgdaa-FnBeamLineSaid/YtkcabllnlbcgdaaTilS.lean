/-
  Lists of tiles: read, tested. No condition but that lengths stay in range.
-/
import Derived.Test.YtkcabllnlbcgdaaTil
import Derived.Deep.WholeRow
namespace Go.Proofs.Ytkcabllnlbcgdaa
open Go.RowKit
set_option linter.unusedVariables false
set_option linter.unusedSimpArgs false
/-- The cells of tiles, one after the other. -/
def fl64 (ts : List (List Int)) : List Value := (ts.map iv).flatten
theorem fl64_len : ∀ (ts : List (List Int)), (∀ t ∈ ts, t.length = 64) → (fl64 ts).length = ts.length * 64
  | [], _ => rfl
  | t :: ts, h => by
    have h1 := h t (List.mem_cons_self ..)
    have h2 := fl64_len ts fun x hx => h x (List.mem_cons_of_mem _ hx)
    simp only [fl64, List.map_cons, List.flatten_cons, List.length_append, iv_len, List.length_cons] at h2 ⊢
    omega
theorem fl64_get : ∀ (ts : List (List Int)) (k j : Nat), (∀ t ∈ ts, t.length = 64) → k < ts.length → j < 64 → (fl64 ts)[k * 64 + j]? = (iv (ts.getD k []))[j]?
  | [], k, j, _, hk, _ => by simp at hk
  | t :: ts, 0, j, h, _, hj => by
    have h1 := h t (List.mem_cons_self ..)
    simp only [fl64, List.map_cons, List.flatten_cons, List.getD_cons_zero, Nat.zero_mul, Nat.zero_add]
    rw [List.getElem?_append_left (by rw [iv_len]; omega)]
  | t :: ts, k + 1, j, h, hk, hj => by
    have h1 := h t (List.mem_cons_self ..)
    have ih := fl64_get ts k j (fun x hx => h x (List.mem_cons_of_mem _ hx)) (by simpa using hk) hj
    simp only [fl64, List.map_cons, List.flatten_cons, List.getD_cons_succ] at ih ⊢
    rw [List.getElem?_append_right (by rw [iv_len]; omega), iv_len, h1, show (k + 1) * 64 + j - 64 = k * 64 + j by omega]
    exact ih
/-- Tiles to be read. -/
def TiRd (w : World) (B : Nat) (A : Option Addr) (n : Nat) (ts : List (List Int)) : Prop := ts.length = n ∧ (∀ t ∈ ts, t.length = 64) ∧ Reads w B 64 A n (fl64 ts)
theorem TiRd.below {w w' : World} {B n : Nat} {A : Option Addr} {ts : List (List Int)} (h : TiRd w B A n ts) (b : Below B w w') : TiRd w' B A n ts := ⟨h.1, h.2.1, h.2.2.below b⟩
theorem TiRd.more {w : World} {B B' n : Nat} {A : Option Addr} {ts : List (List Int)} (h : TiRd w B A n ts) (hB : B ≤ B') : TiRd w B' A n ts := ⟨h.1, h.2.1, h.2.2.more hB⟩
theorem TiRd.len {w : World} {B n k : Nat} {A : Option Addr} {ts : List (List Int)} (h : TiRd w B A n ts) (hk : k < n) : (ts.getD k []).length = 64 := by
  rw [List.getD_eq_getElem?_getD, List.getElem?_eq_getElem (show k < ts.length by rw [h.1]; exact hk)]
  exact h.2.1 _ (List.getElem_mem _)
theorem TiRd.spot {w : World} {B n k : Nat} {A : Option Addr} {ts : List (List Int)} (h : TiRd w B A n ts) (hk : k < n) :
    ∃ b off, A = some ⟨b, off, none⟩ ∧ b < B ∧ w.rangeAt b (off + k * 64) (iv (ts.getD k [])) := by
  obtain ⟨h1, h2, h3⟩ := h
  obtain ⟨⟨b, off, spot⟩, rfl, hb, hc⟩ := h3.2 (by omega)
  have hl : ∀ k, k < n → (ts.getD k []).length = 64 := fun k hk => by
    rw [List.getD_eq_getElem?_getD, List.getElem?_eq_getElem (show k < ts.length by omega)]
    exact h2 _ (List.getElem_mem _)
  have c0 := hc 0 _ (by have := fl64_get ts 0 0 h2 (by omega) (by omega); rw [Nat.zero_mul, Nat.zero_add, iv_getD (by rw [hl 0 (by omega)]; omega)] at this; exact this)
  have hs : spot = none := by simpa [Addr.add] using World.cell?_spot c0
  subst hs
  refine ⟨b, off, rfl, hb, fun j v hj => ?_⟩
  have hj2 : j < 64 := by
    obtain ⟨hlt, _⟩ := iv_get hj
    rw [hl k hk] at hlt; exact hlt
  have := hc (k * 64 + j) v (by rw [fl64_get ts k j h2 (by omega) hj2]; exact hj)
  rw [show ((⟨b, off, none⟩ : Addr).add (k * 64 + j)) = ⟨b, off + k * 64 + j, none⟩ by unfold Addr.add; split <;> simp_all; omega] at this
  exact this
theorem iv_one (xs : List Int) : (iv xs).toArray.all (·.oneCell') = true := all_oneCell_toArray fun v hv => by
  simp only [iv, List.mem_map] at hv
  obtain ⟨z, _, rfl⟩ := hv
  rfl
theorem wpList_store_newV {ops : Array Oper} {rest : List Oper} {op : Oper} {a : Act} {Q : Exit → Act → World → Prop} (hgd : op.guard = none) (ty : TypeId) (x y : Operand) (ho : op.op = .store ty x y)
    (w : World) (c c' : Array Value) (hx : a.eval x = .pointer (some ⟨w.heap.size, 0, none⟩)) (hy : a.eval y = .agg c') (hi : (Try.prog.info? ty).map (·.size) = some c'.size) (hz : c.size = c'.size) (h1 : c'.all (·.oneCell') = true)
    (h : wpList Try.prog ops Q rest (a.put op.dst undef) (w.alloc (.cells c' ty))) : wpList Try.prog ops Q (op :: rest) a (w.alloc (.cells c ty)) := by
  refine wpList_plain hgd fun K hK => ?_
  unfold Oper.wp execOp
  simp only [ho, hx, hy, Sem.run_bind, Sem.run_pure, Result.andThen_ok, run_storeAt_new w ty c c' hi hz h1]
  exact hK _ _ h
def tilesB (ts : List (List Int)) : Bool := decide (ts.length ≤ 16) && ts.all tileB
theorem tiles_bad {ts : List (List Int)} {k : Nat} (hk : k < ts.length) (h : tileB (ts.getD k []) = false) : ts.all tileB = false := by
  rw [List.getD_eq_getElem?_getD, List.getElem?_eq_getElem hk, Option.getD_some] at h
  simp only [List.all_eq_false]
  exact ⟨_, List.getElem_mem hk, by rw [h]; simp⟩
theorem tiles_of {ts : List (List Int)} (h : ∀ i, i < ts.length → tileB (ts.getD i []) = true) : ts.all tileB = true := by
  rw [List.all_eq_true]
  intro x hx
  obtain ⟨i, hi, rfl⟩ := List.mem_iff_getElem.1 hx
  have := h i hi
  rwa [List.getD_eq_getElem?_getD, List.getElem?_eq_getElem hi, Option.getD_some] at this
theorem tile_info : (Try.prog.info? 83).map (·.size) = some 64 := by kernel_rfl
set_option maxRecDepth 20000 in
set_option maxHeartbeats 400000 in
theorem tilesValid_any (A : Option Addr) (n c : Nat) (ts : List (List Int)) (w : World) (h : TiRd w w.heap.size A n ts) (hn : n ≤ 1000000000) :
    Calls Try.prog 84 #[.slice A n c] w fun e w' => e = .returned (.bool (tilesB ts)) ∧ Below w.heap.size w w' := by
  have hl := h.1
  have H := Lib.hid h
  clear h
  by_cases h16 : (n : Int) > 16
  · have hr : tilesB ts = false := by unfold tilesB; rw [decide_eq_false (by omega), Bool.false_and]
    rw [hr]
    go_enter Try.func84, Try.ntmps84
    go_wp2_with fail
    go_ret
    exact ⟨rfl, Below.refl _ _⟩
  have hr : tilesB ts = ts.all tileB := by unfold tilesB; rw [decide_eq_true (by omega), Bool.true_and]
  rw [hr]
  replace hr := Lib.hid hr
  go_enter Try.func84, Try.ntmps84
  go_wp2_with fail
  go_loopw [10] (fun i wr => ∃ k : Nat, k ≤ n ∧ i = .int .i64 k ∧ (∀ i, i < k → tileB (ts.getD i []) = true) ∧ Below w.heap.size w wr) (fun i _ => n - (intOf i).toNat)
  case atStart => exact ⟨0, Nat.zero_le _, rfl, fun i hi => by omega, Below.refl _ _⟩
  case round =>
    obtain ⟨k, hk, rfl, hall, hb⟩ := hrel
    by_cases hlt : k < n
    · obtain ⟨b, off, e1, hb1, hc⟩ := (H.out.below hb).spot hlt
      have hpl := H.out.len hlt
      have q0 : (0 : Int) ≤ (k : Int) := by omega
      have q1 : (k : Int) < (n : Int) := by omega
      have hsz := hb.size
      cases htb : tileB (ts.getD k [])
      · have hbad := Lib.hid (tiles_bad (by omega) htb)
        clear hall
        generalize ts.getD k [] = px at hc hpl htb
        have HC := Lib.hid hc
        have HIN := Lib.hid (show (Try.prog.info? 83).map (·.size) = some (iv px).length by rw [iv_len, hpl]; exact tile_info)
        have HIA := Lib.hid (show (Try.prog.info? 83).map (·.size) = some (iv px).toArray.size by rw [List.size_toArray, iv_len, hpl]; exact tile_info)
        have HSA := Lib.hid (show 64 = (iv px).toArray.size by rw [List.size_toArray, iv_len, hpl])
        have HR2 := Lib.hid (show (wr.alloc (.cells (iv px).toArray 83)).rangeAt wr.heap.size 0 (iv px) from fun j v hj => by rw [Nat.zero_add, cell_new]; simpa using hj)
        have HBA := Lib.hid (hb.alloc hsz (.cells (iv px).toArray 83))
        have E1 := Lib.hid e1
        have HPL := Lib.hid hpl
        clear hc hb e1 hpl
        rw [E1.out]
        go_wp2_with (first | (refine wpList_load_mid rfl 83 _ rfl b (off + k * 64) rfl (iv px) _ HC.out Try.underlying83 rfl HIN.out ?_) | (refine wpList_store_newV rfl 83 _ _ rfl wr _ (iv px).toArray rfl rfl HIA.out HSA.out (iv_one px) ?_) | (refine wpList_load_mid rfl 83 _ rfl wr.heap.size 0 rfl (iv px) _ HR2.out Try.underlying83 rfl HIN.out ?_) | (go_at_call 95; refine (tileValid_impl px HPL.out _).mono ?_; rintro e w5 ⟨rfl, b5⟩; rw [htb]; have hb5 := Lib.hid (below_step HBA.out b5 HBA.out.size); clear b5))
        go_ret
        rw [hbad.out]
        exact ⟨rfl, hb5.out⟩
      · have hall2 := Lib.hid (show ∀ i, i < k + 1 → tileB (ts.getD i []) = true from fun i hi => by rcases Nat.lt_or_ge i k with h | h; exact hall i h; obtain rfl : i = k := (by omega); exact htb)
        clear hall
        generalize ts.getD k [] = px at hc hpl htb
        have HC := Lib.hid hc
        have HIN := Lib.hid (show (Try.prog.info? 83).map (·.size) = some (iv px).length by rw [iv_len, hpl]; exact tile_info)
        have HIA := Lib.hid (show (Try.prog.info? 83).map (·.size) = some (iv px).toArray.size by rw [List.size_toArray, iv_len, hpl]; exact tile_info)
        have HSA := Lib.hid (show 64 = (iv px).toArray.size by rw [List.size_toArray, iv_len, hpl])
        have HR2 := Lib.hid (show (wr.alloc (.cells (iv px).toArray 83)).rangeAt wr.heap.size 0 (iv px) from fun j v hj => by rw [Nat.zero_add, cell_new]; simpa using hj)
        have HBA := Lib.hid (hb.alloc hsz (.cells (iv px).toArray 83))
        have E1 := Lib.hid e1
        have HPL := Lib.hid hpl
        clear hc hb e1 hpl
        rw [E1.out]
        go_wp2_with (first | (refine wpList_load_mid rfl 83 _ rfl b (off + k * 64) rfl (iv px) _ HC.out Try.underlying83 rfl HIN.out ?_) | (refine wpList_store_newV rfl 83 _ _ rfl wr _ (iv px).toArray rfl rfl HIA.out HSA.out (iv_one px) ?_) | (refine wpList_load_mid rfl 83 _ rfl wr.heap.size 0 rfl (iv px) _ HR2.out Try.underlying83 rfl HIN.out ?_) | (go_at_call 95; refine (tileValid_impl px HPL.out _).mono ?_; rintro e w5 ⟨rfl, b5⟩; rw [htb]; have hb5 := Lib.hid (below_step HBA.out b5 HBA.out.size); clear b5))
        go_roundw
        case rel => exact ⟨k + 1, by omega, by go_num, hall2.out, hb5.out⟩
        case measure => simp [intOf]; omega
    · obtain rfl : k = n := by omega
      have hg := Lib.hid (tiles_of (ts := ts) fun i hi => hall i (by omega))
      clear hall
      go_wp2_with fail
      go_ret
      rw [hg.out]
      exact ⟨rfl, hb⟩
end Go.Proofs.Ytkcabllnlbcgdaa
