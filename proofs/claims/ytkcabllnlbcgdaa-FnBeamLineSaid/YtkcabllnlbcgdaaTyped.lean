/-
  A rule for a region that draws its order and holds calls and new memory: each operation's result is described by a predicate that survives what the others do; one obligation an operation, whatever the order. Over any program. No condition.
-/
import Derived.Orders
import Derived.Calls
import Derived.Laws.AppendOwn
namespace Go.Proofs.Ytkcabllnlbcgdaa
open Go
set_option linter.unusedVariables false
set_option linter.unusedSimpArgs false
/-- The values of a region's results, one of them set anew. -/
def upd (vs : Nat → Value) (i : Nat) (v : Value) : Nat → Value := fun j => if j = i then v else vs j
/-- The frame with the region's results laid in, from the k-th operation on. -/
def fill : Act → List Oper → Nat → (Nat → Value) → Act
  | a, [], _, _ => a
  | a, o :: r, k, vs => fill (a.put o.dst (vs k)) r (k + 1) vs
/-- The slots that a list of operations writes. -/
def dsts (l : List Oper) : List Tmp := l.filterMap (·.dst)
theorem dsts_more {o : Oper} {l : List Oper} {d : Tmp} (h : d ∈ dsts l) : d ∈ dsts (o :: l) := by
  obtain ⟨x, hx, hd⟩ := List.mem_filterMap.1 h
  exact List.mem_filterMap.2 ⟨x, List.mem_cons_of_mem _ hx, hd⟩
theorem put_put (a : Act) (d : Option Tmp) (v u : Value) : (a.put d v).put d u = a.put d u := by
  cases d with
  | none => rfl
  | some d => simp [Act.put, Array.setIfInBounds_setIfInBounds]
theorem fill_congr (a : Act) : ∀ (l : List Oper) (k : Nat) (vs us : Nat → Value), (∀ j, k ≤ j → j < k + l.length → vs j = us j) → fill a l k vs = fill a l k us := by
  intro l
  induction l generalizing a with
  | nil => intros; rfl
  | cons o r ih =>
    intro k vs us h
    show fill (a.put o.dst (vs k)) r (k + 1) vs = fill (a.put o.dst (us k)) r (k + 1) us
    rw [h k (Nat.le_refl _) (by simp)]
    exact ih _ _ _ _ fun j h1 h2 => h j (by omega) (by simp only [List.length_cons]; omega)
theorem fill_comm (x : Option Tmp) (v : Value) : ∀ (l : List Oper) (a : Act) (k : Nat) (vs : Nat → Value), (∀ d, x = some d → d ∉ dsts l) → (fill a l k vs).put x v = fill (a.put x v) l k vs := by
  intro l
  induction l with
  | nil => intros; rfl
  | cons o r ih =>
    intro a k vs h
    show (fill (a.put o.dst (vs k)) r (k + 1) vs).put x v = fill ((a.put x v).put o.dst (vs k)) r (k + 1) vs
    rw [ih _ _ _ (fun d hd hm => h d hd (dsts_more hm))]
    rw [Act.put_comm a (x := o.dst) (y := x) (vs k) v ?_]
    intro d hd hx
    exact h d hx (by unfold dsts; simp [List.filterMap_cons, hd])
theorem fill_put : ∀ (l : List Oper) (a : Act) (k i : Nat) (o : Oper) (vs : Nat → Value) (v : Value), (dsts l).Nodup → l[i]? = some o → (fill a l k vs).put o.dst v = fill a l k (upd vs (k + i) v) := by
  intro l
  induction l with
  | nil => intro a k i o vs v _ h; simp at h
  | cons o' r ih =>
    intro a k i o vs v hn h
    have hr : (dsts r).Nodup := by
      unfold dsts at hn ⊢
      cases ho : o'.dst <;> simp [List.filterMap_cons, ho] at hn
      · exact hn
      · exact hn.2
    cases i with
    | zero =>
      simp only [List.getElem?_cons_zero, Option.some.injEq] at h
      subst h
      show (fill (a.put o'.dst (vs k)) r (k + 1) vs).put o'.dst v = fill (a.put o'.dst (upd vs (k + 0) v k)) r (k + 1) (upd vs (k + 0) v)
      have e : upd vs (k + 0) v k = v := by simp [upd]
      rw [fill_comm _ _ r _ _ _ ?_, put_put, e]
      · exact fill_congr _ _ _ _ _ fun j h1 _ => by simp [upd, show j ≠ k by omega]
      · intro d hd hm
        unfold dsts at hn hm
        simp [List.filterMap_cons, hd] at hn
        exact absurd hm (by simpa using hn.1)
    | succ i =>
      simp only [List.getElem?_cons_succ] at h
      show (fill (a.put o'.dst (vs k)) r (k + 1) vs).put o.dst v = fill (a.put o'.dst (upd vs (k + (i + 1)) v k)) r (k + 1) (upd vs (k + (i + 1)) v)
      rw [ih _ _ i o vs v hr h, show upd vs (k + (i + 1)) v k = vs k by simp [upd]]
      rw [show k + 1 + i = k + (i + 1) by omega]
/-- What is known of the results that an operation waits for. -/
def Deps (Φ : Nat → World → Value → Prop) (w : World) (vs : Nat → Value) : List Edge → Prop
  | [] => True
  | e :: r => (Region.binds .any e = true → Φ e.on w (vs e.on)) ∧ Deps Φ w vs r
theorem deps_of {Φ : Nat → World → Value → Prop} {w : World} {vs : Nat → Value} : ∀ (l : List Edge), (∀ e ∈ l, Region.binds .any e = true → Φ e.on w (vs e.on)) → Deps Φ w vs l
  | [], _ => trivial
  | e :: r, h => ⟨h e (List.mem_cons_self ..), deps_of r fun e' he => h e' (List.mem_cons_of_mem _ he)⟩
/-- Every operation of a list, with its number. -/
def Each (H : Nat → Oper → Prop) : Nat → List Oper → Prop
  | _, [] => True
  | k, o :: r => H k o ∧ Each H (k + 1) r
theorem each_cons {H : Nat → Oper → Prop} {k : Nat} {o : Oper} {r : List Oper} (h : H k o) (h' : Each H (k + 1) r) : Each H k (o :: r) := ⟨h, h'⟩
theorem each_get {H : Nat → Oper → Prop} : ∀ (l : List Oper) (k i : Nat) (o : Oper), Each H k l → l[i]? = some o → H (k + i) o := by
  intro l
  induction l with
  | nil => intro k i o _ h; simp at h
  | cons o' r ih =>
    intro k i o hh h
    cases i with
    | zero => simp at h; subst h; exact hh.1
    | succ i => have := ih (k + 1) i o hh.2 (by simpa using h); rwa [show k + 1 + i = k + (i + 1) by omega] at this
/-- Each edge leads back. -/
def back (ops : List Oper) : Bool := (List.range ops.length).all fun i => match ops[i]? with
  | some o => o.after.all fun e => !Region.binds .any e || decide (e.on < i)
  | none => true

section
variable {P : Program} {ops : Array Oper} {Q : Exit → Act → World → Prop} {a : Act}
/-- THE RULE. -/
theorem region_typed {id : Nat} {w : World} (Φ : Nat → World → Value → Prop) (J : Nat → World → Prop) (vs0 : Nat → Value)
    (hm : P.follows .mixedOrders = true) (hnd : (dsts ops.toList).Nodup) (hback : back ops.toList = true)
    (h0 : fill a ops.toList 0 vs0 = a) (hJ : J ops.size { w with drawn := w.drawn + 1 })
    (hops : Each (fun i o => ∀ n vs w', J (n + 1) w' → Deps Φ w' vs o.after.toList → ∀ K : Act → World → Prop,
      (∀ v w'', Φ i w'' v → (∀ j u, Φ j w' u → Φ j w'' u) → J n w'' → K ((fill a ops.toList 0 vs).put o.dst v) w'') →
      if Region.wanted o (yielded ops (fill a ops.toList 0 vs).tmps) then o.wp P (fill a ops.toList 0 vs) w' K Q else K ((fill a ops.toList 0 vs).put o.dst undef) w') 0 ops.toList)
    (hdone : ∀ vs w', J 0 w' → (∀ i, i < ops.size → Φ i w' (vs i)) → Q .normal (fill a ops.toList 0 vs) w') : (Code.region id ops true).wp P Q a w := by
  refine wp_region_any hm ?_
  have main : ∀ (fuel : Nat) (listed : Array Bool) (vs : Nat → Value) (w' : World), listed.size = ops.size → (listed.toList.countP (fun b => !b)) = fuel → J fuel w' →
      (∀ i, listed.getD i false = true → Φ i w' (vs i)) → wpAny P .any ops Q fuel listed (fill a ops.toList 0 vs) w' := by
    intro fuel
    induction fuel with
    | zero =>
      intro listed vs w' hsz hc hj hl
      have hall : ∀ i, i < ops.size → listed.getD i false = true := by
        intro i hi
        rw [List.countP_eq_zero] at hc
        have := hc (listed[i]'(by omega)) (by simp)
        simpa [Array.getD_eq_getD_getElem?, Array.getElem?_eq_getElem (show i < listed.size by omega)] using this
      refine ⟨?_, hdone vs w' hj fun i hi => hl i (hall i hi)⟩
      rw [List.eq_nil_iff_forall_not_mem]
      intro j hjm
      obtain ⟨h1, o, ho, _⟩ := mem_ready.1 hjm
      have hlt : j < ops.size := (Array.getElem?_eq_some_iff.1 ho).1
      have h2 := hall j hlt
      rw [Array.getD_eq_getD_getElem?, Array.getElem?_eq_getElem (show j < listed.size by omega)] at h1 h2
      simp at h1 h2
      rw [h1] at h2
      cases h2
    | succ fuel ih =>
      intro listed vs w' hsz hc hj hl
      have hready : ∀ i, i ∈ Region.ready .any ops listed → wpOp P ops Q i (wpAny P .any ops Q fuel (listed.setIfInBounds i true)) (fill a ops.toList 0 vs) w' := by
        intro i hi
        obtain ⟨h1, o, ho, hall⟩ := mem_ready.1 hi
        have hlt : i < ops.size := (Array.getElem?_eq_some_iff.1 ho).1
        have hol : ops.toList[i]? = some o := by simpa using ho
        have hob := each_get ops.toList 0 i o hops hol
        rw [Nat.zero_add] at hob
        have hf : listed[i]'(by omega) = false := by
          rw [Array.getD_eq_getD_getElem?, Array.getElem?_eq_getElem (show i < listed.size by omega)] at h1
          simpa using h1
        have hcount : ((listed.setIfInBounds i true).toList.countP (fun b => !b)) = fuel := by
          rw [Array.toList_setIfInBounds, List.countP_set (h := by simpa using (show i < listed.size by omega))]
          rw [hc]
          simp [hf]
        have step : ∀ v w'', Φ i w'' v → (∀ j u, Φ j w' u → Φ j w'' u) → J fuel w'' → wpAny P .any ops Q fuel (listed.setIfInBounds i true) ((fill a ops.toList 0 vs).put o.dst v) w'' := by
          intro v w'' hv hst hj'
          rw [fill_put ops.toList a 0 i o vs v hnd hol, Nat.zero_add]
          refine ih _ _ _ (by simpa using hsz) hcount hj' ?_
          intro j hjl
          by_cases hji : j = i
          · subst hji
            simpa [upd] using hv
          · rw [getD_set_ne false (Ne.symm hji)] at hjl
            simpa [upd, hji] using hst j _ (hl j hjl)
        have hx := hob fuel vs w' hj (deps_of _ fun e he hb => hl e.on (hall e (by simpa using he) hb)) _ step
        unfold wpOp
        rw [ho]
        simp only
        split
        · rename_i hw; rw [if_pos hw] at hx; exact .inl hx
        · rename_i hw; rw [if_neg hw] at hx; exact hx
      refine ⟨fun hnil => ?_, hready⟩
      exfalso
      have hex : ∃ b ∈ listed.toList, (fun b => !b) b = true := by
        have : 0 < listed.toList.countP (fun b => !b) := by omega
        exact List.countP_pos_iff.1 this
      obtain ⟨b, hb, hbt⟩ := hex
      obtain ⟨i, hi, rfl⟩ := List.mem_iff_getElem.1 hb
      have hne : ∀ k, ∀ i (hi : i < listed.size), i ≤ k → listed[i] = true := by
        intro k
        induction k with
        | zero =>
          intro i hi hk
          obtain rfl : i = 0 := by omega
          apply Classical.byContradiction
          intro hf
          have : 0 ∈ Region.ready .any ops listed := by
            rw [mem_ready]
            refine ⟨by rw [Array.getD_eq_getD_getElem?, Array.getElem?_eq_getElem hi]; simpa using hf, ops[0]'(by omega), Array.getElem?_eq_getElem (by omega), ?_⟩
            intro e he hbd
            have := List.all_eq_true.1 hback 0 (List.mem_range.2 (by simpa using (show 0 < ops.size by omega)))
            rw [show ops.toList[0]? = some (ops[0]'(by omega)) by simp [Array.getElem?_eq_getElem (show 0 < ops.size by omega)]] at this
            simp only [Array.all_eq_true_iff_forall_mem, Bool.or_eq_true, Bool.not_eq_true', decide_eq_true_eq] at this
            exact absurd ((this e he).resolve_left (by simp [hbd])) (by omega)
          rw [hnil] at this
          cases this
        | succ k ihk =>
          intro i hi hk
          by_cases hlt : i ≤ k
          · exact ihk i hi hlt
          · obtain rfl : i = k + 1 := by omega
            apply Classical.byContradiction
            intro hf
            have : k + 1 ∈ Region.ready .any ops listed := by
              rw [mem_ready]
              refine ⟨by rw [Array.getD_eq_getD_getElem?, Array.getElem?_eq_getElem hi]; simpa using hf, ops[k + 1]'(by omega), Array.getElem?_eq_getElem (by omega), ?_⟩
              intro e he hbd
              have := List.all_eq_true.1 hback (k + 1) (List.mem_range.2 (by simpa using (show k + 1 < ops.size by omega)))
              rw [show ops.toList[k + 1]? = some (ops[k + 1]'(by omega)) by simp [Array.getElem?_eq_getElem (show k + 1 < ops.size by omega)]] at this
              simp only [Array.all_eq_true_iff_forall_mem, Bool.or_eq_true, Bool.not_eq_true', decide_eq_true_eq] at this
              have hlt2 := (this e he).resolve_left (by simp [hbd])
              have := ihk e.on (by omega) (by omega)
              rw [Array.getD_eq_getD_getElem?, Array.getElem?_eq_getElem (show e.on < listed.size by omega)]
              simpa using this
            rw [hnil] at this
            cases this
      have := hne i i (by simpa using hi) (Nat.le_refl _)
      simp only [Array.getElem_toList] at hbt
      rw [this] at hbt
      cases hbt
  have hstart := main ops.size (Array.replicate ops.size false) vs0 { w with drawn := w.drawn + 1 } (by simp) (by simp [Array.toList_replicate, List.countP_replicate]) hJ (by
    intro i hi
    rw [Array.getD_eq_getD_getElem?] at hi
    simp [Array.getElem?_replicate] at hi
    split at hi <;> simp at hi)
  rw [h0] at hstart
  exact hstart
/-- A frame with its own values laid in is itself. -/
theorem put_self (a : Act) (d : Option Tmp) (v : Value) (h : ∀ t, d = some t → v = a.tmps.getD t undef) : a.put d v = a := by
  cases d with
  | none => rfl
  | some t =>
    rw [h t rfl]
    show (⟨a.tmps.setIfInBounds t (a.tmps.getD t undef), a.defers⟩ : Act) = a
    have e : a.tmps.setIfInBounds t (a.tmps.getD t undef) = a.tmps := by
      apply Array.ext_getElem?
      intro j
      rw [Array.getElem?_setIfInBounds]
      by_cases hj : t = j
      · subst hj
        by_cases hlt : t < a.tmps.size
        · simp [hlt]
        · simp [hlt, Array.getElem?_eq_none (Nat.le_of_not_lt hlt)]
      · simp [hj]
    rw [e]
theorem fill_self (a : Act) : ∀ (l : List Oper) (k : Nat) (vs : Nat → Value), (∀ (i : Nat) (o : Oper), l[i]? = some o → ∀ t, o.dst = some t → vs (k + i) = a.tmps.getD t undef) → fill a l k vs = a := by
  intro l
  induction l with
  | nil => intros; rfl
  | cons o r ih =>
    intro k vs h
    show fill (a.put o.dst (vs k)) r (k + 1) vs = a
    rw [put_self a o.dst (vs k) (fun t ht => h 0 o rfl t ht)]
    exact ih _ _ fun i o' hi t ht => by have := h (i + 1) o' (by simpa using hi) t ht; rwa [show k + (i + 1) = k + 1 + i by omega] at this
/-- A predicate on a value that survives new blocks and writes to block g. -/
def Stable (g : Option Nat) (p : World → Value → Prop) : Prop := ∀ w w' v, w.grownBy w' g → p w v → p w' v
def StableAll (g : Option Nat) : List (World → Value → Prop) → Prop
  | [] => True
  | p :: r => Stable g p ∧ StableAll g r
def AnyV (_ : World) (_ : Value) : Prop := True
theorem stable_any (g : Option Nat) : Stable g AnyV := fun _ _ _ _ _ => trivial
theorem stable_get {g : Option Nat} : ∀ (l : List (World → Value → Prop)) (i : Nat), StableAll g l → Stable g (l.getD i AnyV)
  | [], i, _ => by simpa using stable_any g
  | p :: r, 0, h => h.1
  | p :: r, i + 1, h => by have := stable_get r i h.2; simpa using this
/-- One operation's obligation, the frame under a name. -/
def Oblig (P : Program) (ops : Array Oper) (Q : Exit → Act → World → Prop) (a : Act) (g : Option Nat) (Φs : List (World → Value → Prop)) (J : Nat → World → Prop) (i : Nat) (o : Oper) : Prop :=
  ∀ n vs (aa : Act) w', aa = fill a ops.toList 0 vs → J (n + 1) w' → Deps (fun i => Φs.getD i AnyV) w' vs o.after.toList → ∀ K : Act → World → Prop,
    (∀ v w'', (Φs.getD i AnyV) w'' v → w'.grownBy w'' g → J n w'' → K (aa.put o.dst v) w'') →
    if Region.wanted o (yielded ops aa.tmps) then o.wp P aa w' K Q else K (aa.put o.dst undef) w'
/-- THE RULE at a list of such predicates: what happens to the world is new blocks and writes to block g. -/
theorem region_list {id : Nat} {w : World} (g : Option Nat) (Φs : List (World → Value → Prop)) (J : Nat → World → Prop)
    (hm : P.follows .mixedOrders = true) (hst : StableAll g Φs) (hnd : (dsts ops.toList).Nodup) (hback : back ops.toList = true)
    (hJ : J ops.size { w with drawn := w.drawn + 1 })
    (hops : Each (Oblig P ops Q a g Φs J) 0 ops.toList)
    (hdone : ∀ vs w', J 0 w' → (∀ i, i < ops.size → (Φs.getD i AnyV) w' (vs i)) → Q .normal (fill a ops.toList 0 vs) w') : (Code.region id ops true).wp P Q a w := by
  refine region_typed (fun i => Φs.getD i AnyV) J (fun j => ((ops.toList[j]?).bind (·.dst)).elim undef (a.tmps.getD · undef)) hm hnd hback ?_ hJ ?_ hdone
  · refine fill_self a _ 0 _ ?_
    intro i o hi t ht
    rw [Nat.zero_add, hi]
    simp [ht]
  · have mono : ∀ (l : List Oper) (k : Nat), Each (Oblig P ops Q a g Φs J) k l →
      Each (fun i o => ∀ n vs w', J (n + 1) w' → Deps (fun i => Φs.getD i AnyV) w' vs o.after.toList → ∀ K : Act → World → Prop,
      (∀ v w'', (Φs.getD i AnyV) w'' v → (∀ j u, (Φs.getD j AnyV) w' u → (Φs.getD j AnyV) w'' u) → J n w'' → K ((fill a ops.toList 0 vs).put o.dst v) w'') →
      if Region.wanted o (yielded ops (fill a ops.toList 0 vs).tmps) then o.wp P (fill a ops.toList 0 vs) w' K Q else K ((fill a ops.toList 0 vs).put o.dst undef) w') k l := by
      intro l
      induction l with
      | nil => intros; trivial
      | cons o r ih =>
        intro k h
        refine ⟨fun n vs w' hj hd K hK => h.1 n vs _ w' rfl hj hd K fun v w'' hv hg hj' => hK v w'' hv (fun j u hu => stable_get Φs j hst w' w'' u hg hu) hj', ih _ h.2⟩
    exact mono _ _ hops
/-- The same for a region in the order of its text. -/
theorem region_list0 {id : Nat} {w : World} (g : Option Nat) (Φs : List (World → Value → Prop)) (J : Nat → World → Prop)
    (hst : StableAll g Φs) (hnd : (dsts ops.toList).Nodup) (hback : back ops.toList = true)
    (hJ : J ops.size w)
    (hops : Each (Oblig P ops Q a g Φs J) 0 ops.toList)
    (hdone : ∀ vs w', J 0 w' → (∀ i, i < ops.size → (Φs.getD i AnyV) w' (vs i)) → Q .normal (fill a ops.toList 0 vs) w') : (Code.region id ops false).wp P Q a w := by
  refine wp_region ?_
  have main : ∀ (m k : Nat) (vs : Nat → Value) (w' : World), k + m = ops.size → J m w' → (∀ i, i < k → (Φs.getD i AnyV) w' (vs i)) → wpOps P ops Q (List.range' k m) (fill a ops.toList 0 vs) w' := by
    intro m
    induction m with
    | zero =>
      intro k vs w' hk hj hl
      simp only [List.range'_zero, wpOps]
      exact hdone vs w' hj fun i hi => hl i (by omega)
    | succ m ih =>
      intro k vs w' hk hj hl
      have hlt : k < ops.size := by omega
      have ho : ops[k]? = some (ops[k]'hlt) := Array.getElem?_eq_getElem hlt
      generalize ops[k]'hlt = o at ho
      have hol : ops.toList[k]? = some o := by simpa using ho
      have hob := each_get ops.toList 0 k o hops hol
      rw [Nat.zero_add] at hob
      rw [List.range'_succ, wpOps_cons]
      have step : ∀ v w'', (Φs.getD k AnyV) w'' v → w'.grownBy w'' g → J m w'' → wpOps P ops Q (List.range' (k + 1) m) ((fill a ops.toList 0 vs).put o.dst v) w'' := by
        intro v w'' hv hg hj'
        rw [fill_put ops.toList a 0 k o vs v hnd hol, Nat.zero_add]
        refine ih _ _ _ (by omega) hj' ?_
        intro j hjl
        by_cases hji : j = k
        · subst hji; simpa [upd] using hv
        · simpa [upd, hji] using stable_get Φs j hst w' w'' _ hg (hl j (by omega))
      have hdep : Deps (fun i => Φs.getD i AnyV) w' vs o.after.toList := by
        refine deps_of _ fun e he hbd => hl e.on ?_
        have := List.all_eq_true.1 hback k (List.mem_range.2 (by simpa using hlt))
        rw [hol] at this
        simp only [Array.all_eq_true_iff_forall_mem, Bool.or_eq_true, Bool.not_eq_true', decide_eq_true_eq] at this
        exact (this e (by simpa using he)).resolve_left (by simp [hbd])
      have hx := hob m vs _ w' rfl hj hdep _ step
      unfold wpOp
      rw [ho]
      simp only
      split
      · rename_i hw; rw [if_pos hw] at hx; exact .inl hx
      · rename_i hw; rw [if_neg hw] at hx; exact hx
  have := main ops.size 0 (fun j => ((ops.toList[j]?).bind (·.dst)).elim undef (a.tmps.getD · undef)) w (by omega) hJ (fun i hi => absurd hi (by omega))
  rw [fill_self a _ 0 _ ?_] at this
  · rw [List.range_eq_range']; exact this
  · intro i o hi t ht
    rw [Nat.zero_add, hi]
    simp [ht]
theorem ev_of {aa b : Act} {x : Operand} {v : Value} (h : aa = b) (hb : b.eval x = v) : aa.eval x = v := by rw [h]; exact hb
theorem evs_of {aa b : Act} {xs : Array Operand} {vs : Array Value} (h : aa = b) (hb : xs.map b.eval = vs) : xs.map aa.eval = vs := by rw [h]; exact hb
theorem ob_plain {o : Oper} {y : Nat → Option Bool} {X Y : Prop} (hg : o.guard = none) (h : X) : if Region.wanted o y then X else Y := by
  rw [if_pos (by simp [Region.wanted, hg])]; exact h
end
end Go.Proofs.Ytkcabllnlbcgdaa
