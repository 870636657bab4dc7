/-
  Regions that draw their order, whose operations only read, and whose callees leave all that was there: one walk, over a family of worlds. Over any program. No condition.
-/
import Derived.Test.YtkcabllnlbcgdaaMem
import Derived.Deep.QuietTactic
import Derived.BigQuiet
import Derived.Deep.MidRow
namespace Go.Proofs.Ytkcabllnlbcgdaa
open Go.RowKit
set_option linter.unusedVariables false
theorem wp_region_fam {P : Program} {id : Nat} {Q : Exit → Act → World → Prop} {a : Act} {w : World} {l : List Oper} {ι : Type} (F : ι → World) (hm : P.follows .mixedOrders = true) (hB : Region.lexB .any l.toArray = true) (hC : ∃ i, w.drew = F i)
    (h : wpQuiet P l.toArray (fun w' => ∃ n, w' = F n) (fun a' => ∀ w', (∃ n, w' = F n) → Q .normal a' w') l a) : (Code.region id l.toArray true).wp P Q a w :=
  wp_region_quiet (C := fun w' => ∃ n, w' = F n) hm hB hC (by simpa using h)
/-- The worlds in which all that was there has stayed, as a family. -/
theorem fam_of (W : World) : ∃ (ι : Type) (_ : Nonempty ι) (F : ι → World), (∀ i, Below W.heap.size W (F i)) ∧ ∀ w', Below W.heap.size W w' → ∃ i, w' = F i :=
  ⟨{w' : World // Below W.heap.size W w'}, ⟨⟨W, Below.refl _ _⟩⟩, Subtype.val, fun i => i.2, fun w' h => ⟨⟨w', h⟩, rfl⟩⟩
theorem fam_call {P : Program} {f : FuncId} {args : Array Value} {u v : Value} {W : World} {ι : Type} {F : ι → World} (hall : ∀ i, Below W.heap.size W (F i)) (hsur : ∀ w', Below W.heap.size W w' → ∃ i, w' = F i) (i : ι)
    (h : Calls P f args (F i) fun e w' => e = .returned u ∧ Below (F i).heap.size (F i) w') (hu : u = v) : Calls P f args (F i) fun e w'' => e = .returned v ∧ ∃ m, w'' = F m := by
  subst hu
  exact h.mono fun e w' ⟨h1, h2⟩ => ⟨h1, hsur _ (below_step (hall i) h2 (hall i).size)⟩
theorem fam_int {P : Program} {f : FuncId} {args : Array Value} {u v : Int} {W : World} {ι : Type} {F : ι → World} (hall : ∀ i, Below W.heap.size W (F i)) (hsur : ∀ w', Below W.heap.size W w' → ∃ i, w' = F i) (i : ι)
    (h : Calls P f args (F i) fun e w' => e = .returned (.int .i64 u) ∧ Below (F i).heap.size (F i) w') (hu : u = v) : Calls P f args (F i) fun e w'' => e = .returned (.int .i64 v) ∧ ∃ m, w'' = F m := fam_call hall hsur i h (congrArg _ hu)
/-- A load of many cells, at a step of such a walk. -/
theorem wpQuiet_load {P : Program} {ops : Array Oper} {ι : Type} {F : ι → World} {Q : Act → Prop} {a : Act} {op : Oper} {rest : List Oper} (hgd : op.guard = none) (ty : TypeId) (x : Operand) (ho : op.op = .load ty x)
    (b o : Nat) (hx : a.eval x = .pointer (some ⟨b, o, none⟩)) (cs : List Value) (d : TypeDesc) (hc : ∀ i, (F i).rangeAt b o cs) (hu : P.underlying ty = some d) (hd : d.isRow = true) (hi : (P.info? ty).map (·.size) = some cs.length)
    (h : wpQuiet P ops (fun w' => ∃ n, w' = F n) Q rest (a.put op.dst (.agg cs.toArray))) : wpQuiet P ops (fun w' => ∃ n, w' = F n) Q (op :: rest) a := by
  refine BigFrame.wpQuiet_want (by simp [Region.wanted, hgd]) fun K hK => ⟨.agg cs.toArray, ?_, hK _ h⟩
  rintro w ⟨i, rfl⟩
  unfold Oper.quietAt execOp
  simp only [ho, hx, Instr.loadAt, Instr.sureAddr, Sem.run_bind, Sem.run_pure, Result.andThen_ok, run_loadVar_mid (F i) b o ty cs d (hc i) hu hd hi]
  exact ⟨rfl, rfl⟩
theorem at_loadQ {P : Program} {ops : Array Oper} {rest : List Oper} {op : Oper} {a : Act} {C : World → Prop} {Q : Act → Prop} {ty : TypeId} {x : Operand} (ho : op.op = .load ty x) (h : wpQuiet P ops C Q (op :: rest) a) : wpQuiet P ops C Q (op :: rest) a := h
end Go.Proofs.Ytkcabllnlbcgdaa
