/-
  The rule of a region that draws its order, for a region whose last operations wait for all before them: the head by predicates, the tail in the order of the text. Over any program. No condition.
-/
import Derived.Test.YtkcabllnlbcgdaaTyped
import Derived.StillTail
namespace Go.Proofs.Ytkcabllnlbcgdaa
open Go
set_option linter.unusedVariables false
set_option linter.unusedSimpArgs false
section
variable {P : Program} {Q : Exit → Act → World → Prop} {a : Act}
def ObligT (P : Program) (ops : Array Oper) (pre : List Oper) (Q : Exit → Act → World → Prop) (a : Act) (g : Option Nat) (Φs : List (World → Value → Prop)) (J : Nat → World → Prop) (i : Nat) (o : Oper) : Prop :=
  ∀ n vs (aa : Act) w', aa = fill a pre 0 vs → J (n + 1) w' → Deps (fun i => Φs.getD i AnyV) w' vs o.after.toList → ∀ K : Act → World → Prop,
    (∀ v w'', (Φs.getD i AnyV) w'' v → w'.grownBy w'' g → J n w'' → K (aa.put o.dst v) w'') →
    if Region.wanted o (yielded ops aa.tmps) then o.wp P aa w' K Q else K (aa.put o.dst undef) w'
theorem countP_zero_of {listed : Array Bool} {n : Nat} (hn : n ≤ listed.size) (ht : ∀ t, n ≤ t → t < listed.size → listed.getD t true = false) (hc : listed.toList.countP (fun b => !b) = listed.size - n) : ∀ i, i < n → listed.getD i false = true := by
  intro i hi
  rw [← List.take_append_drop n listed.toList, List.countP_append] at hc
  have h2 : (listed.toList.drop n).countP (fun b => !b) = (listed.toList.drop n).length := by
    rw [List.countP_eq_length]
    intro b hb
    obtain ⟨k, hk, rfl⟩ := List.mem_iff_getElem.1 hb
    have hk' : n + k < listed.size := by simp at hk; omega
    have := ht (n + k) (by omega) hk'
    rw [Array.getD_eq_getD_getElem?, Array.getElem?_eq_getElem hk'] at this
    simpa using this
  rw [h2] at hc
  simp only [List.length_drop, Array.length_toList] at hc
  have h0 : (listed.toList.take n).countP (fun b => !b) = 0 := by omega
  rw [List.countP_eq_zero] at h0
  have hlt : i < listed.size := by omega
  have hm : listed[i] ∈ listed.toList.take n := by
    rw [List.mem_take_iff_getElem]
    exact ⟨i, by simp; omega, by simp⟩
  have := h0 _ hm
  simpa [Array.getD_eq_getD_getElem?, Array.getElem?_eq_getElem hlt] using this
theorem region_tail {id : Nat} {w : World} {l : List Oper} (n : Nat) (g : Option Nat) (Φs : List (World → Value → Prop)) (J : Nat → World → Prop)
    (hm : P.follows .mixedOrders = true) (hst : StableAll g Φs) (hn : n < l.length) (hnd : (dsts (l.take n)).Nodup) (hback : back l = true)
    (hs : Region.sinkB .any l.toArray n = true) (hc : Region.chainB .any l.toArray n = true)
    (hseq : Region.seqB .any l.toArray (l.length - n) n ((List.replicate n true ++ List.replicate (l.length - n) false).toArray) = true)
    (hJ : J n { w with drawn := w.drawn + 1 })
    (hops : Each (ObligT P l.toArray (l.take n) Q a g Φs J) 0 (l.take n))
    (hdone : ∀ vs w', J 0 w' → (∀ i, i < n → (Φs.getD i AnyV) w' (vs i)) → wpList P l.toArray Q (l.drop n) (fill a (l.take n) 0 vs) w') : (Code.region id l.toArray true).wp P Q a w := by
  refine wp_region_any hm ?_
  have hsz : l.toArray.size = l.length := by simp
  have hdl : (l.drop n).length = l.length - n := by simp
  have main : ∀ (fuel : Nat) (listed : Array Bool) (vs : Nat → Value) (w' : World), HeadInv .any l.toArray n listed → listed.toList.countP (fun b => !b) = fuel + (l.length - n) → J fuel w' →
      (∀ i, i < n → listed.getD i false = true → (Φs.getD i AnyV) w' (vs i)) → wpAny P .any l.toArray Q (fuel + (l.length - n)) listed (fill a (l.take n) 0 vs) w' := by
    intro fuel
    induction fuel with
    | zero =>
      intro listed vs w' inv hcnt hj hl
      have hls : listed.size = l.length := by rw [inv.size, hsz]
      have hall := countP_zero_of (listed := listed) (n := n) (by omega) (fun t h1 h2 => inv.tail t h1 (by rw [hsz]; omega)) (by rw [hcnt, hls]; omega)
      have he : listed = (List.replicate n true ++ List.replicate (l.length - n) false).toArray := by
        apply Array.ext
        · simp; omega
        · intro i h1 h2
          by_cases hi : i < n
          · have := hall i hi
            rw [Array.getD_eq_getD_getElem?, Array.getElem?_eq_getElem h1] at this
            simp at this
            rw [this]
            simp [List.getElem_append, hi]
          · have := inv.tail i (by omega) (by rw [hsz]; omega)
            rw [Array.getD_eq_getD_getElem?, Array.getElem?_eq_getElem h1] at this
            simp at this
            rw [this]
            simp [List.getElem_append, hi]
      subst he
      have := wpAny_of_seq (md := .any) (Q' := Q) (l.drop n) n _ (fill a (l.take n) 0 vs) w' (fun j => by simp [List.getElem?_drop]) (by rw [hdl]; exact hseq) (hdone vs w' hj fun i hi => hl i hi (hall i hi))
      rw [hdl] at this
      rw [Nat.zero_add]
      exact this
    | succ fuel ih =>
      intro listed vs w' inv hcnt hj hl
      have hls : listed.size = l.length := by rw [inv.size, hsz]
      -- someone of the head is unlisted
      have hex : ∃ i, i < n ∧ listed.getD i true = false := by
        apply Classical.byContradiction
        intro hno
        have h1 : ∀ i, i < n → listed.getD i true = true := fun i hi => by
          cases h : listed.getD i true
          · exact absurd ⟨i, hi, h⟩ hno
          · rfl
        have h2 : (listed.toList.take n).countP (fun b => !b) = 0 := by
          rw [List.countP_eq_zero]
          intro b hb
          obtain ⟨k, hk, rfl⟩ := List.mem_take_iff_getElem.1 hb
          have hkn : k < n := by omega
          have hkl : k < listed.size := by simp at hk; omega
          have := h1 k hkn
          rw [Array.getD_eq_getD_getElem?, Array.getElem?_eq_getElem hkl] at this
          simpa using this
        have h3 : (listed.toList.drop n).countP (fun b => !b) ≤ l.length - n := by
          refine Nat.le_trans List.countP_le_length ?_
          simp [hls]
        rw [← List.take_append_drop n listed.toList, List.countP_append, h2] at hcnt
        omega
      rw [show fuel + 1 + (l.length - n) = fuel + (l.length - n) + 1 by omega]
      refine ⟨fun hnil => ?_, fun i hi => ?_⟩
      · exfalso
        have hall : ∀ k i, i ≤ k → i < l.length → listed.getD i false = true := by
          intro k
          induction k with
          | zero =>
            intro i h1 h2
            obtain rfl : i = 0 := by omega
            apply Classical.byContradiction
            intro hf
            have hf' : listed.getD 0 false = false := by cases h : listed.getD 0 false <;> simp_all
            have : 0 ∈ Region.ready .any l.toArray listed := by
              rw [mem_ready]
              refine ⟨getD_in (by omega) hf', l[0]'(by omega), by simp, ?_⟩
              intro e he hbd
              have h3 := List.all_eq_true.1 hback 0 (List.mem_range.2 (by omega))
              rw [List.getElem?_eq_getElem (show 0 < l.length by omega)] at h3
              simp only [Array.all_eq_true_iff_forall_mem, Bool.or_eq_true, Bool.not_eq_true', decide_eq_true_eq] at h3
              exact absurd ((h3 e he).resolve_left (by simp [hbd])) (by omega)
            rw [hnil] at this; cases this
          | succ k ihk =>
            intro i h1 h2
            by_cases hik : i ≤ k
            · exact ihk i hik h2
            · obtain rfl : i = k + 1 := by omega
              apply Classical.byContradiction
              intro hf
              have hf' : listed.getD (k + 1) false = false := by cases h : listed.getD (k + 1) false <;> simp_all
              have : k + 1 ∈ Region.ready .any l.toArray listed := by
                rw [mem_ready]
                refine ⟨getD_in (by omega) hf', l[k + 1]'(by omega), by simp [h2], ?_⟩
                intro e he hbd
                have h3 := List.all_eq_true.1 hback (k + 1) (List.mem_range.2 (by omega))
                rw [List.getElem?_eq_getElem (show k + 1 < l.length by omega)] at h3
                simp only [Array.all_eq_true_iff_forall_mem, Bool.or_eq_true, Bool.not_eq_true', decide_eq_true_eq] at h3
                have hlt := (h3 e he).resolve_left (by simp [hbd])
                exact ihk e.on (by omega) (by omega)
              rw [hnil] at this; cases this
        obtain ⟨i, hi, hf⟩ := hex
        have h4 := hall i i (Nat.le_refl _) (by omega)
        rw [getD_both hf] at h4
        cases h4
      · obtain ⟨h1, o, ho, hdep⟩ := mem_ready.1 hi
        have hin : i < n := by
          apply Classical.byContradiction
          intro hge
          obtain ⟨i', hi', hf'⟩ := hex
          exact tail_waits hs hc (by rw [hsz]; exact hn) inv _ i' rfl hi' hf' i (by omega) hi
        have hlt : i < l.length := by omega
        have hol : (l.take n)[i]? = some o := by rw [List.getElem?_take, if_pos hin]; simpa using ho
        have hob := each_get (l.take n) 0 i o hops hol
        rw [Nat.zero_add] at hob
        have hil : i < listed.size := by omega
        have hf : listed[i]'hil = false := by
          rw [Array.getD_eq_getD_getElem?, Array.getElem?_eq_getElem hil] at h1
          simpa using h1
        have hcount : ((listed.setIfInBounds i true).toList.countP (fun b => !b)) = fuel + (l.length - n) := by
          rw [Array.toList_setIfInBounds, List.countP_set (h := by simpa using hil)]
          rw [hcnt]
          simp [hf]
        have step : ∀ v w'', (Φs.getD i AnyV) w'' v → w'.grownBy w'' g → J fuel w'' → wpAny P .any l.toArray Q (fuel + (l.length - n)) (listed.setIfInBounds i true) ((fill a (l.take n) 0 vs).put o.dst v) w'' := by
          intro v w'' hv hg hj'
          rw [fill_put (l.take n) a 0 i o vs v hnd hol, Nat.zero_add]
          refine ih _ _ _ (inv.set hi hin) hcount hj' ?_
          intro j hjn hjl
          by_cases hji : j = i
          · subst hji
            simpa [upd] using hv
          · rw [getD_set_ne false (Ne.symm hji)] at hjl
            simpa [upd, hji] using stable_get Φs j hst w' w'' _ hg (hl j hjn hjl)
        have hdeps : Deps (fun i => Φs.getD i AnyV) w' vs o.after.toList := by
          refine deps_of _ fun e he hb => ?_
          have h3 := List.all_eq_true.1 hback i (List.mem_range.2 hlt)
          rw [show l[i]? = some o by simpa using ho] at h3
          simp only [Array.all_eq_true_iff_forall_mem, Bool.or_eq_true, Bool.not_eq_true', decide_eq_true_eq] at h3
          have hlt2 := (h3 e (by simpa using he)).resolve_left (by simp [hb])
          exact hl e.on (by omega) (hdep e (by simpa using he) hb)
        have hx := hob fuel vs _ w' rfl hj hdeps _ step
        unfold wpOp
        rw [ho]
        simp only
        split
        · rename_i hw; rw [if_pos hw] at hx; exact .inl hx
        · rename_i hw; rw [if_neg hw] at hx; exact hx
  have inv0 : HeadInv .any l.toArray n (Array.replicate l.toArray.size false) :=
    ⟨by simp, fun j oj _ hl => (by rw [getD_replicate_false] at hl; cases hl), fun t _ ht => getD_in (by simpa using ht) (getD_replicate_false _ _)⟩
  have hself : fill a (l.take n) 0 (fun j => (((l.take n)[j]?).bind (·.dst)).elim undef (a.tmps.getD · undef)) = a := by
    refine fill_self a _ 0 _ ?_
    intro i o hi t ht
    rw [Nat.zero_add, hi]
    simp [ht]
  have := main n (Array.replicate l.toArray.size false) (fun j => (((l.take n)[j]?).bind (·.dst)).elim undef (a.tmps.getD · undef)) { w with drawn := w.drawn + 1 } inv0 (by simp [Array.toList_replicate, List.countP_replicate]; omega) hJ (by
    intro i _ hi
    rw [getD_replicate_false] at hi
    cases hi)
  rw [hself, show n + (l.length - n) = l.length by omega] at this
  simpa using this
end
end Go.Proofs.Ytkcabllnlbcgdaa
