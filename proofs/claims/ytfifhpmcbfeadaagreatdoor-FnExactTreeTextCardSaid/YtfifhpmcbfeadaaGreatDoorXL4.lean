/- Nodes: what stands in the fields of a node. -/
import Derived.Test.YtfifhpmcbfeadaaGreatDoorXL3
import Derived.Test.YtfifhpmcbfeadaaGreatDoorXN1
set_option linter.unusedVariables false
set_option linter.unusedSimpArgs false
set_option maxRecDepth 20000
namespace Go.X
open Go
variable {X : Call}

def opM (op : List UInt8) : Bool := op == [61, 61] || op == [60] || op == [43] || op == [45] || op == [42] || op == [47] || op == [37]
/-- The nodes whose text is a name. -/
def namedM (k : Int) : Bool := k == 5 || (k == 10 || (k == 11 || (k == 12 || (k == 17 || k == 20))))
def nodeOK (m : NodeM) : Bool :=
  if m.kind == 1 then decide (0 ≤ m.n) && decide (m.n ≤ 2147483647) && m.text == [] && decide (m.names.length = 0)
  else if m.kind == 3 then decide (0 ≤ m.n) && decide (m.n ≤ 1) && m.text == [] && decide (m.names.length = 0)
  else if m.n != 0 || (m.kind != 20 && decide (0 < m.names.length)) then false
  else if m.kind == 2 then plainM m.text
  else if m.kind == 6 then m.text == [33] || m.text == [45]
  else if m.kind == 7 then opM m.text
  else if namedM m.kind then m.names.all identM && identM m.text
  else m.text == [] && (decide (4 ≤ m.kind) && decide (m.kind ≤ 19))
def opsL : List (List UInt8) := [[61, 61], [60], [43], [45], [42], [47], [37]]
theorem opImpl_eq (op : List UInt8) (σ : Store) : ∃ σ', EE X f_impl_isBinary [.str op] σ = some (.bool (opM op), σ') ∧ Pre σ σ' := by
  refine ⟨σ ++ [⟨opsL.map (fun t => [.str t]), 1, 0, .own⟩], ?_, Pre.app _ _⟩
  have h := contains_eq (X := X) _ opsL _ op (lits σ opsL (fun t ht => by have := (by decide : ∀ t ∈ opsL, t.length ≤ 2) t ht; unfold LenOk; omega)) (by decide)
  have e : (opsL.any (fun x => op == x)) = opM op := by
    simp only [opsL, List.any_cons, List.any_nil, opM]
    cases op == [61, 61] <;> cases op == [60] <;> cases op == [43] <;> cases op == [45] <;> cases op == [42] <;> cases op == [47] <;> cases op == [37] <;> rfl
  rw [e] at h
  simp only [opsL, List.map_cons, List.map_nil, List.length_cons, List.length_nil, Nat.zero_add, Nat.reduceAdd] at h
  rw [EE, Ex_run C_impl_isBinary rfl]
  simp (config := {contextual := true, implicitDefEqProofs := false, maxSteps := 1000000}) only [
    ↓PR0, ↓PR1, ↓PR2, PO0, PO1, PO2, PO3, idxV_str, result, resOf, allSome, number, upd, List.map, Option.bind_some, Nat.reduceAdd, Nat.reduceSub, Nat.reduceLeDiff, Nat.reduceLT, Nat.reduceEqDiff, Nat.zero_add, Nat.add_zero, Nat.le_refl, 
    reduceIte, ne_eq, not_false_eq_true, and_self, true_and, and_true, reduceCtorEq, cond_true, cond_false, c_impl_isBinary, List.replicate_succ, List.replicate_zero, List.set_cons_zero, List.set_cons_succ, h, opsL]
theorem opSpec_eq (op : List UInt8) (σ : Store) : EE X f_spec_l01Op [.str op] σ = some (.bool (opM op), σ) := by
  rw [EE, Ex_run C_spec_l01Op rfl]
  simp (config := {contextual := true, implicitDefEqProofs := false, maxSteps := 1000000}) only [
    ↓PR0, ↓PR1, ↓PR2, PO0, PO1, PO2, PO3, idxV_str, result, resOf, allSome, number, upd, List.map, Option.bind_some, Nat.reduceAdd, Nat.reduceSub, Nat.reduceLeDiff, Nat.reduceLT, Nat.reduceEqDiff, Nat.zero_add, Nat.add_zero, Nat.le_refl, 
    reduceIte, ne_eq, not_false_eq_true, and_self, true_and, and_true, reduceCtorEq, cond_true, cond_false, c_spec_l01Op]
  simp only [opM]
  cases op == [61, 61] <;> cases op == [60] <;> cases op == [43] <;> cases op == [45] <;> cases op == [42] <;> cases op == [47] <;> cases op == [37] <;> rfl
end Go.X
