/-
  A region that makes a scene with one more sprite: what its steps leave alone. No condition.
-/
import Derived.Test.YtkcabllnlbcgdaaShf
import Derived.Test.YtkcabllnlbcgdaaTypedG
namespace Go.Proofs.Ytkcabllnlbcgdaa
open Go.RowKit
set_option linter.unusedVariables false
set_option linter.unusedSimpArgs false
/-- Old memory stays; boxes and short rows stay; the rows of XS and of XS with one more stay. -/
structure GS (B n : Nat) (XS YS : List Value) (w w' : World) : Prop where
  below : Below B w w'
  size : w.heap.size ≤ w'.heap.size
  blk : ∀ k t cs, Blk w k t cs → (t ≠ 70 ∨ cs.size ≤ 6) → Blk w' k t cs
  row : ∀ A c, w.ownsRow B 70 6 (.slice A n c) n XS → w'.ownsRow B 70 6 (.slice A n c) n XS
  one : ∀ A c, w.ownsRow B 70 6 (.slice A (n + 1) c) (n + 1) YS → w'.ownsRow B 70 6 (.slice A (n + 1) c) (n + 1) YS
section
variable {B n : Nat} {XS YS : List Value} {w w' : World}
theorem GS.refl (w : World) : GS B n XS YS w w := ⟨Below.refl _ _, Nat.le_refl _, fun _ _ _ h _ => h, fun _ _ h => h, fun _ _ h => h⟩
theorem GS.of_below (hB : B ≤ w.heap.size) (h : Below w.heap.size w w') : GS B n XS YS w w' :=
  ⟨h.mono hB, h.size, fun k t cs hb _ => hb.below h hb.lt, fun _ _ o => own_below o h, fun _ _ o => own_below o h⟩
theorem GS.alloc (hB : B ≤ w.heap.size) (o : Obj) : GS B n XS YS w (w.alloc o) := GS.of_below hB ((Below.refl _ _).alloc (Nat.le_refl _) _)
end
def EmptyS (B : Nat) (w : World) (v : Value) : Prop := ∃ k, v = .slice (some ⟨k, 0, none⟩) 0 0 ∧ B ≤ k ∧ Blk w k 70 #[]
def OneS (s : Spr) (w : World) (v : Value) : Prop := ∃ k, v = .slice (some ⟨k, 0, none⟩) 1 1 ∧ Blk w k 70 s.cs.toArray
def RowS (B n : Nat) (XS : List Value) (w : World) (v : Value) : Prop := ∃ k c, v = .slice (some ⟨k, 0, none⟩) n c ∧ w.ownsRow B 70 6 (.slice (some ⟨k, 0, none⟩) n c) n XS ∧ (n = 0 → c = 0)
def RowT (B n : Nat) (YS : List Value) (w : World) (v : Value) : Prop := ∃ A c, v = .slice A (n + 1) c ∧ w.ownsRow B 70 6 (.slice A (n + 1) c) (n + 1) YS
def ScnT (f : Fld) (B n : Nat) (YS : List Value) (w : World) (v : Value) : Prop := ∃ A c, v = scV f A (n + 1) c ∧ w.ownsRow B 70 6 (.slice A (n + 1) c) (n + 1) YS
def BoxS (B : Nat) (w : World) (v : Value) : Prop := ∃ k, v = .pointer (some ⟨k, 0, none⟩) ∧ B ≤ k ∧ Blk w k 61 zeroSc
section
variable {B n : Nat} {XS YS : List Value}
theorem stS_empty : StableG (GS B n XS YS) (EmptyS B) := fun w w' v h ⟨k, e, hk, hb⟩ => ⟨k, e, hk, h.blk _ _ _ hb (.inr (Nat.zero_le _))⟩
theorem stS_one (s : Spr) : StableG (GS B n XS YS) (OneS s) := fun w w' v h ⟨k, e, hb⟩ => ⟨k, e, h.blk _ _ _ hb (.inr (Nat.le_refl 6))⟩
theorem stS_row : StableG (GS B n XS YS) (RowS B n XS) := fun w w' v h ⟨k, c, e, o, hc⟩ => ⟨k, c, e, h.row _ _ o, hc⟩
theorem stS_rowT : StableG (GS B n XS YS) (RowT B n YS) := fun w w' v h ⟨A, c, e, o⟩ => ⟨A, c, e, h.one _ _ o⟩
theorem stS_scn (f : Fld) : StableG (GS B n XS YS) (ScnT f B n YS) := fun w w' v h ⟨A, c, e, o⟩ => ⟨A, c, e, h.one _ _ o⟩
theorem stS_box : StableG (GS B n XS YS) (BoxS B) := fun w w' v h ⟨k, e, hk, hb⟩ => ⟨k, e, hk, h.blk _ _ _ hb (.inl (by decide))⟩
end
/-- One sprite more. -/
theorem app_one {B n c g k : Nat} {XS : List Value} (s : Spr) (w : World) (ty : TypeId) (o : w.ownsRow B 70 6 (.slice (some ⟨g, 0, none⟩) n c) n XS) (hc : n = 0 → c = 0) (hk : Blk w k 70 s.cs.toArray) (hn : n ≤ 1000) (hB : B ≤ w.heap.size) :
    ∃ v w', (Builtin.append_ #[59, 59] ty #[.slice (some ⟨g, 0, none⟩) n c, .slice (some ⟨k, 0, none⟩) 1 1]).run Try.prog w = .ok v w' ∧ RowT B n (XS ++ s.cs) w' v ∧ GS B n XS (XS ++ s.cs) w w' := by
  obtain ⟨i, hi, hz, hsz, hby⟩ := info_parts spr_info
  have hsz : i.size = 6 := hsz
  have ht := Try.underlying59
  have hnews : ∀ j u, s.cs[j]? = some u → w.cell? ((⟨k, 0, none⟩ : Addr).add j) = some u := fun j u hu => by rw [Addr.add_mid, Nat.zero_add]; exact (hk.cell j).trans (by simpa using hu)
  rcases o.2 with ⟨h, -⟩ | ⟨g', cap, cur, e, hbg, hg, hnc, hcm, hcs, htake⟩
  · cases h
  injection e with e1 _ e2
  injection e1 with e1
  injection e1 with e1
  subst e1 e2
  obtain ⟨v', w', hr, ho, -, -, -⟩ := run_append_own_at (P := Try.prog) w B 59 ty 70 i _ 6 32 ht hi hz hsz hby rfl (by omega) (.slice (some ⟨g, 0, none⟩) n c) n XS o ⟨k, 0, none⟩ 1 1 s.cs rfl hnews (sprOneL s) (by simp only [maxLen]; omega) (by omega) hB
  obtain ⟨A', c', rfl⟩ := own_form ho
  refine ⟨_, _, hr, ⟨A', c', rfl, ho⟩, ?_⟩
  by_cases hroom : n + 1 ≤ c
  · have hn0 : n ≠ 0 := fun h => by have := hc h; omega
    have hfit : n * i.size + s.cs.length ≤ cur.size := by rw [hsz, hcs]; show n * 6 + 6 ≤ c * 6; omega
    have hr2 := run_append_room (P := Try.prog) w 59 ty 70 i ht hi g n c cur hg ⟨k, 0, none⟩ 1 1 s.cs (by rw [hsz]; rfl) hnews (sprOneL s) hroom hfit
    rw [hsz] at hr2
    rw [hr] at hr2
    injection hr2 with _ hw
    obtain ⟨new, hnew⟩ : ∃ new, new = (cur.toList.take (n * 6) ++ s.cs ++ cur.toList.drop (n * 6 + s.cs.length)).toArray := ⟨_, rfl⟩
    rw [← hnew] at hw
    subst hw
    have hxl : XS.length = n * 6 := o.1
    have hs6 : s.cs.length = 6 := rfl
    rw [htake] at hnew
    have hns : new.size = cur.size := by
      rw [hnew]
      show (XS ++ s.cs ++ cur.toList.drop (n * 6 + s.cs.length)).length = cur.size
      simp only [List.length_append, List.length_drop, Array.length_toList, hxl, hs6]
      omega
    have ht1 : new.toList.take (n * 6) = XS := by
      rw [hnew, List.toList_toArray, List.append_assoc, ← hxl]; exact List.take_left
    have ht2 : new.toList.take ((n + 1) * 6) = XS ++ s.cs := by
      rw [hnew, List.toList_toArray, show (n + 1) * 6 = (XS ++ s.cs).length by rw [List.length_append, hxl, hs6]; omega]; exact List.take_left
    have hgo : ∀ k2 cur2 e2, w.heap[k2]? = some (.cells cur2 e2 (0, 0)) → k2 = g → cur2 = cur ∧ e2 = 70 := fun k2 cur2 e2 h2 hk2 => by
      subst hk2
      rw [hg] at h2
      injection h2 with h2
      injection h2 with h3 h4
      exact ⟨h3.symm, h4.symm⟩
    refine ⟨below_setRow (Below.refl _ _) hbg _, by simp, fun k2 t2 cs2 h2 hcond => ?_, fun A2 c2 o2 => ?_, fun A2 c2 o2 => ?_⟩
    · by_cases hk2 : k2 = g
      · obtain ⟨rfl, rfl⟩ := hgo k2 cs2 t2 h2 hk2
        rcases hcond with h | h
        · exact absurd rfl h
        · rw [hcs] at h; omega
      · exact (setRow_other w g k2 _ hk2).trans h2
    · rcases o2.2 with ⟨h, h0⟩ | ⟨g2, cap2, cur2, e, hb2, hg2, hn2, hm2, hs2, ht3⟩
      · exact ⟨o2.1, .inl ⟨h, h0⟩⟩
      · by_cases hk2 : g2 = g
        · obtain ⟨rfl, -⟩ := hgo g2 cur2 _ hg2 hk2
          subst hk2
          exact ⟨o2.1, .inr ⟨g2, cap2, new, e, hb2, setRow_heap w g2 cur2 _ _ _ hg2, hn2, hm2, by rw [hns]; exact hs2, ht1⟩⟩
        · exact ⟨o2.1, .inr ⟨g2, cap2, cur2, e, hb2, (setRow_other w g g2 _ hk2).trans hg2, hn2, hm2, hs2, ht3⟩⟩
    · rcases o2.2 with ⟨h, h0⟩ | ⟨g2, cap2, cur2, e, hb2, hg2, hn2, hm2, hs2, ht3⟩
      · exact ⟨o2.1, .inl ⟨h, h0⟩⟩
      · by_cases hk2 : g2 = g
        · obtain ⟨rfl, -⟩ := hgo g2 cur2 _ hg2 hk2
          subst hk2
          exact ⟨o2.1, .inr ⟨g2, cap2, new, e, hb2, setRow_heap w g2 cur2 _ _ _ hg2, hn2, hm2, by rw [hns]; exact hs2, ht2⟩⟩
        · exact ⟨o2.1, .inr ⟨g2, cap2, cur2, e, hb2, (setRow_other w g g2 _ hk2).trans hg2, hn2, hm2, hs2, ht3⟩⟩
  · have hr2 := run_append_grow (P := Try.prog) w 59 ty 70 i _ ht hi hz ⟨g, 0, none⟩ n c XS (by rw [hsz]; exact o.1) (o.cells (g := g) rfl) ⟨k, 0, none⟩ 1 1 s.cs (by rw [hsz]; rfl) hnews (by omega) (by omega) (growslice_fits (by omega) (by rw [hby]; omega))
    rw [hr] at hr2
    injection hr2 with _ hw
    rw [hw]
    exact GS.of_below hB ((Below.refl _ _).drew.alloc (by exact Nat.le_refl _) _)
theorem own_empty {B k : Nat} {w : World} (hk : B ≤ k) (h : Blk w k 70 #[]) : w.ownsRow B 70 6 (.slice (some ⟨k, 0, none⟩) 0 0) 0 [] := ⟨rfl, .inr ⟨k, 0, #[], rfl, hk, h, Nat.le_refl _, Nat.zero_le _, rfl, rfl⟩⟩
set_option maxRecDepth 8000 in
/-- All sprites, onto nothing. -/
theorem app_all {B B' n c3 k : Nat} {A3 : Option Addr} {ss : List Spr} {YS : List Value} (w : World) (ty : TypeId) (hk : B ≤ k) (he : Blk w k 70 #[]) (hr3 : Reads w B' 6 A3 n (fl6 ss)) (hnil : A3 = none → c3 = 0) (hn : n ≤ 1000) (hB : B ≤ w.heap.size) :
    ∃ v w', (Builtin.append_ #[59, 59] ty #[.slice (some ⟨k, 0, none⟩) 0 0, .slice A3 n c3]).run Try.prog w = .ok v w' ∧ RowS B n (fl6 ss) w' v ∧ GS B n (fl6 ss) YS w w' := by
  obtain ⟨i, hi, hz, hsz, hby⟩ := info_parts spr_info
  have hsz : i.size = 6 := hsz
  have ht := Try.underlying59
  have o := own_empty hk he
  cases A3 with
  | none =>
    obtain rfl : n = 0 := by
      rcases Nat.eq_zero_or_pos n with h0 | h0
      · exact h0
      · obtain ⟨ad, e, _⟩ := hr3.2 h0; cases e
    obtain rfl := hnil rfl
    have hl : fl6 ss = [] := by have := hr3.1; simpa using this
    have hr := run_append_owned_none (P := Try.prog) (w := w) B 59 ty 70 i 6 ht hi _ 0 [] o
    exact ⟨_, _, hr, ⟨k, 0, rfl, by rw [hl]; exact o, fun _ => rfl⟩, GS.refl _⟩
  | some ad =>
    have hnews : ∀ j u, (fl6 ss)[j]? = some u → w.cell? (ad.add j) = some u := fun j u hj => by
      have hm : 0 < n := by
        have h1 := hr3.1
        have h2 : j < (fl6 ss).length := by
          rcases Nat.lt_or_ge j (fl6 ss).length with h3 | h3
          · exact h3
          · rw [List.getElem?_eq_none h3] at hj; cases hj
        rcases Nat.eq_zero_or_pos n with h0 | h0
        · subst h0; omega
        · exact h0
      obtain ⟨ad', e, _, hc⟩ := hr3.2 hm
      injection e with e
      subst e
      exact hc j u hj
    obtain ⟨v', w', hr, ho, -, -, -⟩ := run_append_own_at (P := Try.prog) w B 59 ty 70 i _ 6 32 ht hi hz hsz hby rfl (by omega) (.slice (some ⟨k, 0, none⟩) 0 0) 0 [] o ad n c3 (fl6 ss) hr3.1 hnews (fl6_one ss) (by simp only [maxLen]; omega) (by omega) hB
    rw [Nat.zero_add, List.nil_append] at ho
    rcases Nat.eq_zero_or_pos n with h0 | h0
    · subst h0
      have hl : fl6 ss = [] := by have := hr3.1; simpa using this
      have hr2 := run_append_room (P := Try.prog) w 59 ty 70 i ht hi k 0 0 #[] he ad 0 c3 (fl6 ss) (by rw [hl]; simp) hnews (fl6_one ss) (Nat.le_refl _) (by rw [hl]; simp)
      rw [hl] at hr2
      simp only [Nat.zero_mul, List.take_zero, List.nil_append, List.length_nil, Nat.zero_add, List.drop_zero, Nat.add_zero] at hr2
      rw [setRow_self w k #[] _ _ he] at hr2
      exact ⟨_, _, hr2, ⟨k, 0, rfl, by rw [hl]; exact o, fun _ => rfl⟩, GS.refl _⟩
    · have hr2 := run_append_grow (P := Try.prog) w 59 ty 70 i _ ht hi hz ⟨k, 0, none⟩ 0 0 [] (by simp) (fun j u hj => by simp at hj) ad n c3 (fl6 ss) (by rw [hsz]; exact hr3.1) hnews (by omega) (by omega) (growslice_fits (by omega) (by rw [hby]; omega))
      rw [hr] at hr2
      injection hr2 with hv hw
      rw [Nat.zero_add] at hv
      refine ⟨_, _, hr, ⟨_, _, hv, by rw [← hv]; exact ho, fun h => by omega⟩, ?_⟩
      rw [hw]
      exact GS.of_below hB ((Below.refl _ _).drew.alloc (by exact Nat.le_refl _) _)
end Go.Proofs.Ytkcabllnlbcgdaa
