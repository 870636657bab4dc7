/-
  Recordings in plain words: what is recorded plays back, what plays is recorded so, doubled frames hold twice as long. No program here.
-/
import Derived.Test.YtmdebahhlgfboaaPlayF
namespace Go.Proofs.Ytmdebahhlgfboaa
open Go.RowKit
set_option linter.unusedVariables false
set_option linter.unusedSimpArgs false
def lastP (p : Option Int) (ts : List THold) : Option Int := if ts = [] then p else some (lastH ts).1
theorem lastP_cons (p : Option Int) (t : THold) (ts : List THold) : lastP p (t :: ts) = lastP (some t.1) ts := by
  unfold lastP
  rw [if_neg (by simp)]
  split
  · rename_i h; subst h; rfl
  · rename_i h
    have hl : 0 < ts.length := List.length_pos_iff.2 h
    unfold lastH
    rw [show (t :: ts).length - 1 = ts.length - 1 + 1 by simp; omega, List.getD_cons_succ]
theorem pl_snoc : ∀ (ts : List THold) (p : Option Int) (m : Nat) (t : THold) (xs : List Int), plFrom p m ts = some xs →
    plFrom p m (ts ++ [t]) = if plOk (lastP p ts) (m + xs.length) t then some (xs ++ List.replicate t.2.toNat t.1) else none
  | [], p, m, t, xs, h => by
    simp only [plFrom, Option.some.injEq] at h
    subst h
    simp only [List.nil_append, plFrom, lastP, if_true, List.length_nil, Nat.add_zero]
    split <;> simp
  | u :: ts, p, m, t, xs, h => by
    rw [List.cons_append, lastP_cons]
    unfold plFrom at h ⊢
    by_cases hok : plOk p m u = true
    · rw [if_pos hok] at h ⊢
      rw [Option.map_eq_some_iff] at h
      obtain ⟨ys, h1, rfl⟩ := h
      rw [pl_snoc ts (some u.1) (m + u.2.toNat) t ys h1, List.length_append, List.length_replicate, Nat.add_assoc]
      split <;> simp
    · rw [if_neg hok] at h
      cases h
theorem last_drop {o : List THold} (h : 0 < o.length) : o = o.dropLast ++ [lastH o] := by
  have hne : o ≠ [] := List.length_pos_iff.1 h
  conv => lhs; rw [← List.dropLast_concat_getLast hne]
  congr 2
  unfold lastH
  rw [List.getLast_eq_getElem, List.getD_eq_getElem?_getD, List.getElem?_eq_getElem (show o.length - 1 < o.length by omega)]
  rfl
theorem set_last {o : List THold} (h : 0 < o.length) (t : THold) : o.set (o.length - 1) t = o.dropLast ++ [t] := by
  conv => lhs; rw [last_drop h]
  rw [List.length_append, List.length_dropLast, List.length_singleton]
  rw [List.set_append_right _ _ (by rw [List.length_dropLast]; omega), List.length_dropLast]
  rw [show o.length - 1 + 1 - 1 - (o.length - 1) = 0 by omega]
  rfl
theorem pl_pre : ∀ (ts us : List THold) (p : Option Int) (m : Nat) (xs : List Int), plFrom p m (ts ++ us) = some xs → ∃ ys, plFrom p m ts = some ys
  | [], us, p, m, xs, _ => ⟨[], rfl⟩
  | t :: ts, us, p, m, xs, h => by
    rw [List.cons_append] at h
    unfold plFrom at h ⊢
    by_cases hok : plOk p m t = true
    · rw [if_pos hok] at h ⊢
      rw [Option.map_eq_some_iff] at h
      obtain ⟨ys, h1, -⟩ := h
      obtain ⟨zs, h2⟩ := pl_pre ts us _ _ ys h1
      exact ⟨_, by rw [h2]; rfl⟩
    · rw [if_neg hok] at h; cases h
theorem rep_one (b : Int) (n : Nat) : List.replicate n b ++ [b] = List.replicate (n + 1) b := by rw [← List.replicate_succ']
theorem pl_recStep {o : List THold} {ys : List Int} {b : Int} (h : plR o = some ys) (hb : inB b 0 255 = true) (hl : ys.length + 1 ≤ 300) : plR (recStep o b) = some (ys ++ [b]) := by
  unfold recStep
  by_cases hc : 0 < o.length ∧ (lastH o).1 = b
  · rw [if_pos hc, set_last hc.1]
    have h' := h
    rw [last_drop hc.1] at h'
    obtain ⟨zs, hz⟩ := pl_pre o.dropLast [lastH o] none 0 ys h'
    unfold plR at h' ⊢
    rw [pl_snoc _ _ _ _ _ hz] at h'
    rw [pl_snoc _ _ _ _ _ hz]
    split at h'
    · rename_i hok
      simp only [Option.some.injEq] at h'
      subst h'
      simp only [plOk, Bool.and_eq_true, inB_iff] at hok
      obtain ⟨⟨⟨f1, f2⟩, -⟩, hp⟩ := hok
      rw [List.length_append, List.length_replicate] at hl
      rw [if_pos]
      · simp only
        rw [show ((lastH o).2 + 1).toNat = (lastH o).2.toNat + 1 by omega, ← rep_one, hc.2, List.append_assoc]
      · simp only [plOk, Bool.and_eq_true, inB_iff]
        rw [hc.2] at hp
        exact ⟨⟨⟨by omega, by omega⟩, inB_iff.1 hb⟩, hp⟩
    · cases h'
  · rw [if_neg hc]
    unfold plR at h ⊢
    rw [pl_snoc _ _ _ _ _ h, if_pos]
    · rfl
    · simp only [plOk, Bool.and_eq_true, inB_iff]
      refine ⟨⟨⟨by omega, by simp only [Nat.zero_add]; omega⟩, inB_iff.1 hb⟩, ?_⟩
      unfold lastP
      split
      · rfl
      · rename_i hne
        have : ¬ (lastH o).1 = b := fun e => hc ⟨List.length_pos_iff.2 hne, e⟩
        simpa using this
theorem pl_recFold : ∀ (xs : List Int) (o : List THold) (ys : List Int), plR o = some ys → allB xs = true → ys.length + xs.length ≤ 300 → plR (xs.foldl recStep o) = some (ys ++ xs)
  | [], o, ys, h, _, _ => by simpa using h
  | b :: xs, o, ys, h, hb, hl => by
    have hb1 : inB b 0 255 = true := by unfold allB at hb; simp at hb; exact hb.1
    have hb2 : allB xs = true := by unfold allB at hb ⊢; simp at hb ⊢; exact hb.2
    rw [List.length_cons] at hl
    have := pl_recFold xs (recStep o b) (ys ++ [b]) (pl_recStep h hb1 (by omega)) hb2 (by rw [List.length_append]; simp; omega)
    simpa using this
/-- What is recorded plays back. -/
theorem play_rec {xs : List Int} (hb : allB xs = true) (hl : xs.length ≤ 300) : plR (recF xs) = some xs := by
  have := pl_recFold xs [] [] rfl hb (by simpa using hl)
  simpa [recF] using this
theorem recF_len (xs : List Int) : (recF xs).length ≤ xs.length := by
  have := (rec_inv (xs := xs) xs.length (Nat.le_refl _)).1
  rwa [List.take_length] at this
theorem recF_ne {xs : List Int} (h : recF xs ≠ []) : xs ≠ [] := by rintro rfl; exact h rfl
theorem rec_inc (pre : List THold) (x : Int) : ∀ (m : Nat) (j : Int), (List.replicate m x).foldl recStep (pre ++ [(x, j)]) = pre ++ [(x, j + m)]
  | 0, j => by simp
  | m + 1, j => by
    rw [List.replicate_succ, List.foldl_cons]
    have : recStep (pre ++ [(x, j)]) x = pre ++ [(x, j + 1)] := by
      unfold recStep
      rw [last_app, if_pos ⟨by simp, rfl⟩, set_last (by simp), List.dropLast_concat]
    rw [this, rec_inc pre x m (j + 1)]
    congr 3
    omega
theorem rec_play : ∀ (ts : List THold) (p : Option Int) (m : Nat) (xs : List Int) (pre : List THold), plFrom p m ts = some xs → (∀ x, 0 < pre.length → (lastH pre).1 = x → p = some x) → xs.foldl recStep pre = pre ++ ts
  | [], p, m, xs, pre, h, _ => by
    simp only [plFrom, Option.some.injEq] at h
    subst h
    simp
  | t :: ts, p, m, xs, pre, h, hp => by
    unfold plFrom at h
    by_cases hok : plOk p m t = true
    · rw [if_pos hok, Option.map_eq_some_iff] at h
      obtain ⟨ys, h1, rfl⟩ := h
      simp only [plOk, Bool.and_eq_true, inB_iff] at hok
      obtain ⟨⟨⟨f1, f2⟩, -⟩, hq⟩ := hok
      obtain ⟨F, hF⟩ : ∃ F : Nat, t.2.toNat = F + 1 := ⟨t.2.toNat - 1, by omega⟩
      rw [List.foldl_append, hF, List.replicate_succ, List.foldl_cons]
      have hs : recStep pre t.1 = pre ++ [(t.1, 1)] := by
        unfold recStep
        rw [if_neg]
        rintro ⟨h0, h2⟩
        rw [hp _ h0 h2] at hq
        simp at hq
      rw [hs, rec_inc, show (1 : Int) + (F : Int) = t.2 by omega]
      have := rec_play ts (some t.1) _ ys (pre ++ [(t.1, t.2)]) h1 (fun x _ hx => by rw [last_app] at hx; rw [← hx])
      rw [this]
      simp
    · rw [if_neg hok] at h; cases h
theorem pl_allB : ∀ (ts : List THold) (p : Option Int) (m : Nat) (xs : List Int), plFrom p m ts = some xs → allB xs = true
  | [], p, m, xs, h => by simp only [plFrom, Option.some.injEq] at h; subst h; rfl
  | t :: ts, p, m, xs, h => by
    unfold plFrom at h
    by_cases hok : plOk p m t = true
    · rw [if_pos hok, Option.map_eq_some_iff] at h
      obtain ⟨ys, h1, rfl⟩ := h
      have := pl_allB ts _ _ ys h1
      simp only [plOk, Bool.and_eq_true] at hok
      unfold allB at this ⊢
      rw [List.all_append, this, Bool.and_true, List.all_replicate]
      split
      · rfl
      · exact hok.1.2
    · rw [if_neg hok] at h; cases h
/-- What plays is recorded so. -/
theorem rec_of_play {ts : List THold} (h : plB ts = true) : recR (plL ts) = ts := by
  unfold plB at h
  obtain ⟨xs, hx⟩ := Option.isSome_iff_exists.1 h
  have e : plL ts = xs := by unfold plL; rw [hx]; rfl
  have hl := plL_len ts
  rw [e] at hl ⊢
  unfold recR
  rw [if_pos (by simp only [Bool.and_eq_true, decide_eq_true_eq]; exact ⟨hl, pl_allB ts none 0 xs hx⟩)]
  have := rec_play ts none 0 xs [] hx (fun x h0 => by simp at h0)
  simpa [recF] using this
theorem btA_end (ts : List THold) : btA ts ((plL ts).length : Int) = 0 := by
  unfold btA; rw [if_neg (by simp)]
def twice (xs : List Int) : List Int := xs.flatMap fun x => [x, x]
def slow (ts : List THold) : List THold := ts.map fun t => (t.1, 2 * t.2)
theorem slow_last {o : List THold} (h : 0 < o.length) : lastH (slow o) = ((lastH o).1, 2 * (lastH o).2) := by
  unfold lastH slow
  rw [List.length_map, List.getD_eq_getElem?_getD, List.getD_eq_getElem?_getD, List.getElem?_map, List.getElem?_eq_getElem (show o.length - 1 < o.length by omega)]
  rfl
theorem slow_step (o : List THold) (b : Int) : recStep (recStep (slow o) b) b = slow (recStep o b) := by
  by_cases hc : 0 < o.length ∧ (lastH o).1 = b
  · have h1 : recStep (slow o) b = (slow o).dropLast ++ [(b, 2 * (lastH o).2 + 1)] := by
      have hs : 0 < (slow o).length := by rw [slow, List.length_map]; exact hc.1
      unfold recStep
      rw [if_pos ⟨hs, by rw [slow_last hc.1]; exact hc.2⟩, set_last hs, slow_last hc.1]
    have h2 : recStep o b = o.dropLast ++ [(b, (lastH o).2 + 1)] := by
      unfold recStep
      rw [if_pos hc, set_last hc.1]
    rw [h1, h2]
    unfold recStep
    rw [last_app, if_pos ⟨by simp, rfl⟩, set_last (by simp), List.dropLast_concat]
    simp only [slow, List.map_append, List.map_cons, List.map_nil, List.map_dropLast]
    congr 3
    omega
  · have h1 : recStep (slow o) b = slow o ++ [(b, 1)] := by
      unfold recStep
      rw [if_neg]
      rintro ⟨h0, h2⟩
      have h3 : 0 < o.length := by rw [slow, List.length_map] at h0; exact h0
      rw [slow_last h3] at h2
      exact hc ⟨h3, h2⟩
    have h2 : recStep o b = o ++ [(b, 1)] := by unfold recStep; rw [if_neg hc]
    rw [h1, h2]
    unfold recStep
    rw [last_app, if_pos ⟨by simp, rfl⟩, set_last (by simp), List.dropLast_concat]
    simp [slow]
theorem rec_twiceF : ∀ (xs : List Int) (o : List THold), (twice xs).foldl recStep (slow o) = slow (xs.foldl recStep o)
  | [], o => rfl
  | x :: xs, o => by
    show ((x :: x :: twice xs)).foldl recStep (slow o) = _
    rw [List.foldl_cons, List.foldl_cons, slow_step, rec_twiceF xs (recStep o x)]
    rfl
/-- Doubled frames hold twice as long. -/
theorem rec_twice (xs : List Int) : recF (twice xs) = slow (recF xs) := rec_twiceF xs []
theorem twice_len (xs : List Int) : (twice xs).length = 2 * xs.length := by
  induction xs with
  | nil => rfl
  | cons x xs ih => show (x :: x :: twice xs).length = _; simp [ih]; omega
theorem twice_allB {xs : List Int} (h : allB xs = true) : allB (twice xs) = true := by
  unfold allB at h ⊢
  rw [List.all_eq_true] at h ⊢
  intro x hx
  simp only [twice, List.mem_flatMap] at hx
  obtain ⟨y, hy, hx⟩ := hx
  simp at hx
  subst hx
  exact h _ hy
end Go.Proofs.Ytmdebahhlgfboaa
