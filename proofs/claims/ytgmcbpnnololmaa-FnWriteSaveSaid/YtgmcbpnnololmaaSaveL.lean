/-
  The plain laws of saves: what is written is read again; what is damaged is not. No program is walked here but through given contracts. No condition.
-/
import Derived.Test.YtgmcbpnnololmaaBestS
import Derived.Test.YtgmcbpnnololmaaSaveB
namespace Go.Proofs.Ytgmcbpnnololmaa
open Go.RowKit
set_option linter.unusedVariables false
set_option linter.unusedSimpArgs false
theorem read_save {m : Int} {zs tail : List Int} (hm : inB m 0 65535 = true) (hl : zs.length ≤ 32) (ha : allB zs = true) (ht : allB tail = true) :
    readOk (saveL m zs ++ [chk (saveL m zs)] ++ tail) = true ∧ readN (saveL m zs ++ [chk (saveL m zs)] ++ tail) = m ∧ readD (saveL m zs ++ [chk (saveL m zs)] ++ tail) = zs := by
  obtain ⟨m0, m1⟩ := inB_iff.1 hm
  have hc := chk_bd (saveL m zs)
  have hall : allB (saveL m zs ++ [chk (saveL m zs)] ++ tail) = true := by
    have h1 := saveL_all hm hl ha
    unfold allB at h1 ht ⊢
    rw [List.all_append, List.all_append, h1, ht]
    simp [inB_true (show 0 ≤ chk (saveL m zs) ∧ chk (saveL m zs) ≤ 255 by omega)]
  have hlen : (saveL m zs ++ [chk (saveL m zs)] ++ tail).length = zs.length + 4 + tail.length := by simp [saveL_len]; omega
  have g0 : (saveL m zs ++ [chk (saveL m zs)] ++ tail).getD 0 0 = m / 256 := by simp [saveL]
  have g1 : (saveL m zs ++ [chk (saveL m zs)] ++ tail).getD 1 0 = m % 256 := by simp [saveL]
  have g2 : (saveL m zs ++ [chk (saveL m zs)] ++ tail).getD 2 0 = (zs.length : Int) := by simp [saveL]
  have hE : readE (saveL m zs ++ [chk (saveL m zs)] ++ tail) = 3 + zs.length := by rw [readE, g2]; simp
  have gE : (saveL m zs ++ [chk (saveL m zs)] ++ tail).getD (3 + zs.length) 0 = chk (saveL m zs) := by
    rw [List.append_assoc, List.getD_eq_getElem?_getD, List.getElem?_append_right (by rw [saveL_len]; omega), saveL_len, Nat.sub_self]
    rfl
  have hT : (saveL m zs ++ [chk (saveL m zs)] ++ tail).take (3 + zs.length) = saveL m zs := by
    rw [List.append_assoc, List.take_append_of_le_length (by rw [saveL_len]; omega), List.take_of_length_le (by rw [saveL_len]; omega)]
  have hok : readOk (saveL m zs ++ [chk (saveL m zs)] ++ tail) = true := by
    simp only [readOk, Bool.and_eq_true, decide_eq_true_eq]
    rw [hE, hT, gE, g2, hlen]
    exact ⟨⟨⟨⟨hall, by omega⟩, by omega⟩, by omega⟩, rfl⟩
  refine ⟨hok, ?_, ?_⟩
  · rw [readN, hok, if_pos rfl, g0, g1]; omega
  · rw [readD, hok, if_pos rfl, hE, hT]; simp [saveL]
theorem saveR_nz {m : Int} {zs : List Int} (h : (saveR m zs).length ≠ 0) : inB m 0 65535 = true ∧ zs.length ≤ 32 ∧ allB zs = true ∧ saveR m zs = saveL m zs ++ [chk (saveL m zs)] ∧ (saveR m zs).length = zs.length + 4 := by
  cases hc : (inB m 0 65535 && decide (zs.length ≤ 32) && allB zs)
  · rw [saveR, hc] at h; simp at h
  · have e : saveR m zs = saveL m zs ++ [chk (saveL m zs)] := by rw [saveR, hc]; rfl
    simp only [Bool.and_eq_true, decide_eq_true_eq] at hc
    exact ⟨hc.1.1, hc.1.2, hc.2, e, by rw [e]; simp [saveL_len]; omega⟩
theorem saveR_some {m : Int} {zs : List Int} (h0 : 0 ≤ m) (h1 : m ≤ 65535) (hl : zs.length ≤ 32) (ha : allB zs = true) : (saveR m zs).length ≠ 0 := by
  rw [saveR, inB_true ⟨h0, h1⟩, ha, decide_eq_true hl]; simp
theorem saveR_read {m : Int} {zs : List Int} (tail : List Int) (h : (saveR m zs).length ≠ 0) (ht : allB tail = true) : readOk (saveR m zs ++ tail) = true ∧ readN (saveR m zs ++ tail) = m ∧ readD (saveR m zs ++ tail) = zs := by
  obtain ⟨h1, h2, h3, h4, _⟩ := saveR_nz h
  rw [h4]
  exact read_save h1 h2 h3 ht
theorem saveR_read0 {m : Int} {zs : List Int} (h : (saveR m zs).length ≠ 0) : readOk (saveR m zs) = true ∧ readN (saveR m zs) = m ∧ readD (saveR m zs) = zs := by
  have := saveR_read [] h rfl
  rwa [List.append_nil] at this
theorem four_of {zs : List Int} (h : 4 ≤ zs.length) : ∃ z0 z1 z2 r, zs = z0 :: z1 :: z2 :: r := by
  match zs, h with
  | z0 :: z1 :: z2 :: r, _ => exact ⟨z0, z1, z2, r, rfl⟩
/-- What a good save consists of. -/
theorem read_parts {zs : List Int} (h : readOk zs = true) : ∃ (z0 z1 : Int) (l : Nat) (r : List Int), zs = z0 :: z1 :: (l : Int) :: r ∧ allB zs = true ∧ l ≤ 32 ∧ l < r.length ∧ readE zs = 3 + l ∧ readN zs = 256 * z0 + z1 ∧ readD zs = r.take l ∧ r.getD l 0 = chk (z0 :: z1 :: (l : Int) :: r.take l) := by
  have hok := h
  simp only [readOk, Bool.and_eq_true, decide_eq_true_eq] at h
  obtain ⟨⟨⟨⟨ha, h4⟩, h32⟩, h5⟩, hc⟩ := h
  obtain ⟨z0, z1, z2, r, rfl⟩ := four_of h4
  have b2 := inB_iff.1 (allB_get ha (k := 2) (by omega))
  simp only [List.getD_cons_succ, List.getD_cons_zero] at h32 h5 b2
  obtain ⟨l, rfl⟩ := Int.eq_ofNat_of_zero_le b2.1
  have hE : readE (z0 :: z1 :: (l : Int) :: r) = 3 + l := by simp [readE]
  have hT : (z0 :: z1 :: (l : Int) :: r).take (3 + l) = z0 :: z1 :: (l : Int) :: r.take l := by rw [Nat.add_comm]; rfl
  rw [hE, hT] at hc
  have hg : (z0 :: z1 :: (l : Int) :: r).getD (3 + l) 0 = r.getD l 0 := by rw [Nat.add_comm]; rfl
  rw [hg] at hc
  simp only [List.length_cons] at h5
  refine ⟨z0, z1, l, r, rfl, ha, by omega, by omega, hE, ?_, ?_, hc⟩
  · rw [readN, hok]; rfl
  · rw [readD, hok, if_pos rfl, hE, hT]; rfl
theorem read_back {zs : List Int} (h : readOk zs = true) : saveR (readN zs) (readD zs) = zs.take ((readD zs).length + 4) ∧ (readD zs).length + 4 ≤ zs.length := by
  obtain ⟨z0, z1, l, r, rfl, ha, h32, hlr, hE, hN, hD, hc⟩ := read_parts h
  have b0 := inB_iff.1 (allB_get ha (k := 0) (by simp))
  have b1 := inB_iff.1 (allB_get ha (k := 1) (by simp))
  simp only [List.getD_cons_succ, List.getD_cons_zero] at b0 b1
  have hdl : (r.take l).length = l := by simp; omega
  have hda : allB (r.take l) = true := by
    unfold allB at ha ⊢
    simp only [List.all_cons, Bool.and_eq_true] at ha
    exact List.all_eq_true.2 fun x hx => List.all_eq_true.1 ha.2.2.2 x (List.mem_of_mem_take hx)
  rw [hN, hD, hdl]
  refine ⟨?_, by simp; omega⟩
  have hs : saveL (256 * z0 + z1) (r.take l) = z0 :: z1 :: (l : Int) :: r.take l := by
    rw [saveL, hdl, show (256 * z0 + z1) / 256 = z0 by omega, show (256 * z0 + z1) % 256 = z1 by omega]; rfl
  rw [saveR, inB_true (show 0 ≤ 256 * z0 + z1 ∧ 256 * z0 + z1 ≤ 65535 by omega), hda, hdl, decide_eq_true h32, hs, ← hc]
  show z0 :: z1 :: (l : Int) :: (r.take l ++ [r.getD l 0]) = z0 :: z1 :: (l : Int) :: r.take (l + 1)
  rw [List.take_add_one, List.getD_eq_getElem?_getD, List.getElem?_eq_getElem hlr]
  rfl
theorem bad_save {zs : List Int} (h : readOk zs = true) : readOk (zs.set ((readD zs).length + 3) ((zs.getD ((readD zs).length + 3) 0 + 1) % 256)) = false := by
  obtain ⟨z0, z1, l, r, rfl, ha, h32, hlr, hE, hN, hD, hc⟩ := read_parts h
  have hdl : (r.take l).length = l := by simp; omega
  rw [hD, hdl]
  have hg : (z0 :: z1 :: (l : Int) :: r).getD (l + 3) 0 = r.getD l 0 := rfl
  have hset : ∀ v, (z0 :: z1 :: (l : Int) :: r).set (l + 3) v = z0 :: z1 :: (l : Int) :: r.set l v := fun v => rfl
  rw [hg, hset, hc]
  have hb := chk_bd (z0 :: z1 :: (l : Int) :: r.take l)
  generalize hC : chk (z0 :: z1 :: (l : Int) :: r.take l) = c at hb hc ⊢
  rw [show (c + 1) % 256 = c + 1 by omega]
  cases hq : readOk (z0 :: z1 :: (l : Int) :: r.set l (c + 1))
  · rfl
  · exfalso
    obtain ⟨y0, y1, l', r', e, _, _, _, _, _, _, hc'⟩ := read_parts hq
    injection e with e0 e
    injection e with e1 e
    injection e with e2 e3
    have e2 : l = l' := by omega
    subst e0 e1 e2 e3
    have ht : (r.set l (c + 1)).take l = r.take l := by
      apply List.ext_getElem?
      intro j
      simp only [List.getElem?_take, List.getElem?_set]
      by_cases hj : j < l
      · simp [hj, show ¬ l = j by omega]
      · simp [hj]
    rw [ht, hC, List.getD_eq_getElem?_getD, List.getElem?_set_self hlr] at hc'
    simp at hc'
    omega
section
variable {a b : List Int}
theorem best_ge (ha : readOk a = true) (hb : readOk b = true) (h : readN b ≤ readN a) : bestF a b = true ∧ bestN a b = readN a ∧ bestD a b = readD a ∧ bestOk a b = true := by
  have hf : bestF a b = true := by simp [bestF, ha, hb, h]
  simp [bestN, bestD, bestOk, hf]
theorem best_lt (ha : readOk a = true) (hb : readOk b = true) (h : readN a < readN b) : bestF a b = false ∧ bestN a b = readN b ∧ bestD a b = readD b ∧ bestOk a b = true := by
  have hf : bestF a b = false := by simp [bestF, ha, hb]; omega
  simp [bestN, bestD, bestOk, hf, hb]
theorem best_tf (ha : readOk a = true) (hb : readOk b = false) : bestF a b = true ∧ bestN a b = readN a ∧ bestD a b = readD a ∧ bestOk a b = true := by
  have hf : bestF a b = true := by simp [bestF, ha, hb]
  simp [bestN, bestD, bestOk, hf]
theorem best_ft (ha : readOk a = false) (hb : readOk b = true) : bestF a b = false ∧ bestN a b = readN b ∧ bestD a b = readD b ∧ bestOk a b = true := by
  have hf : bestF a b = false := by simp [bestF, ha]
  simp [bestN, bestD, bestOk, hf, hb]
theorem best_ff (ha : readOk a = false) (hb : readOk b = false) : bestF a b = false ∧ bestN a b = 0 ∧ bestD a b = [] ∧ bestOk a b = false := by
  have hf : bestF a b = false := by simp [bestF, ha]
  simp [bestN, bestD, bestOk, hf, hb, readN_no hb, readD_no hb]
theorem read_nil : readOk [] = false := rfl
/-- The three ways of a write. -/
theorem write_cases (z : List Int) (h : (nextB a b z).length ≠ 0) :
    (∃ m, 0 ≤ m ∧ m + 1 ≤ 65535 ∧ readOk a = true ∧ readN a = m ∧ bestN a b = m ∧ bestD a b = readD a ∧ bestOk a b = true ∧ writeA a b z = a ∧ writeB a b z = saveR (m + 1) z ∧ (saveR (m + 1) z).length ≠ 0) ∨
    (∃ m, 0 ≤ m ∧ m + 1 ≤ 65535 ∧ readOk b = true ∧ readN b = m ∧ bestN a b = m ∧ bestD a b = readD b ∧ bestOk a b = true ∧ writeA a b z = saveR (m + 1) z ∧ writeB a b z = b ∧ (saveR (m + 1) z).length ≠ 0) ∨
    (readOk b = false ∧ bestN a b = 0 ∧ bestD a b = [] ∧ bestOk a b = false ∧ writeA a b z = saveR 0 z ∧ writeB a b z = b ∧ (saveR 0 z).length ≠ 0) := by
  have hn := bestN_bd a b
  cases hf : bestF a b
  · cases hb : readOk b
    · refine .inr (.inr ?_)
      have ho : bestOk a b = false := by simp [bestOk, hf, hb]
      have hx : nextB a b z = saveR 0 z := by simp [nextB, ho]
      rw [hx] at h
      refine ⟨rfl, by simp [bestN, hf, readN_no hb], by simp [bestD, hf, readD_no hb], ho, ?_, ?_, h⟩
      · rw [writeA, hx, if_neg h, hf]; rfl
      · rw [writeB, hx, if_neg h, hf]; rfl
    · refine .inr (.inl ⟨bestN a b, hn.1, ?_⟩)
      have ho : bestOk a b = true := by simp [bestOk, hf, hb]
      have hx : nextB a b z = saveR (bestN a b + 1) z := by simp [nextB, ho]
      rw [hx] at h
      have h1 := inB_iff.1 (saveR_nz h).1
      refine ⟨by omega, rfl, by simp [bestN, hf], rfl, by simp [bestD, hf], ho, ?_, ?_, h⟩
      · rw [writeA, hx, if_neg h, hf]; rfl
      · rw [writeB, hx, if_neg h, hf]; rfl
  · obtain ⟨h1, h2, h3⟩ := best_first hf
    refine .inl ⟨bestN a b, hn.1, ?_⟩
    have hx : nextB a b z = saveR (bestN a b + 1) z := by simp [nextB, h3]
    rw [hx] at h
    have h4 := inB_iff.1 (saveR_nz h).1
    refine ⟨by omega, h1, h2, rfl, by simp [bestD, hf], h3, ?_, ?_, h⟩
    · rw [writeA, hx, if_neg h, hf]; rfl
    · rw [writeB, hx, if_neg h, hf]; rfl
theorem write_no (z : List Int) (h : (nextB a b z).length = 0) : writeA a b z = [] ∧ writeB a b z = [] := by rw [writeA, writeB, if_pos h, if_pos h]; exact ⟨rfl, rfl⟩
/-- The second write. -/
theorem next_of {x y z : List Int} {m : Int} (ho : bestOk x y = true) (hn : bestN x y = m) : nextB x y z = saveR (m + 1) z := by simp [nextB, ho, hn]
theorem write_f {x y z : List Int} (hf : bestF x y = true) (h : (nextB x y z).length ≠ 0) : writeA x y z = x ∧ writeB x y z = nextB x y z := by
  rw [writeA, writeB, if_neg h, if_neg h, hf]; exact ⟨rfl, rfl⟩
theorem write_o {x y z : List Int} (hf : bestF x y = false) (h : (nextB x y z).length ≠ 0) : writeA x y z = nextB x y z ∧ writeB x y z = y := by
  rw [writeA, writeB, if_neg h, if_neg h, hf]; exact ⟨rfl, rfl⟩
end
end Go.Proofs.Ytgmcbpnnololmaa
