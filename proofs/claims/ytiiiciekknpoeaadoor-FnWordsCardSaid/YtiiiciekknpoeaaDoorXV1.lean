/- Values: what the operations on them come to. -/
import Derived.Test.YtiiiciekknpoeaaDoorXV0
set_option linter.unusedVariables false
set_option linter.unusedSimpArgs false
set_option maxRecDepth 20000
namespace Go.X
open Go
variable {X : Call}

structure ValueM where
  kind : Int
  n : Int
  t : List UInt8
abbrev ValueM.cells (v : ValueM) : List AV := [int v.kind, int v.n, .str v.t]
instance : BEq ValueM := ⟨fun s t => s.kind == t.kind && (s.n == t.n && (s.t == t.t && true))⟩
theorem ValueM.beq_def (s t : ValueM) : (s == t) = (s.kind == t.kind && (s.n == t.n && (s.t == t.t && true))) := rfl
theorem ValueM.eq_of (s t : ValueM) (h : (s == t) = true) : s = t := by
  rw [ValueM.beq_def] at h
  simp only [Bool.and_eq_true, beq_iff_eq, and_true] at h
  obtain ⟨h1, h2, h3⟩ := h
  cases s; cases t
  simp_all
theorem ValueM.refl (s : ValueM) : (s == s) = true := by simp [ValueM.beq_def]
abbrev vNil : ValueM := ⟨0, 0, []⟩
abbrev vInt (n : Int) : ValueM := ⟨1, n, []⟩
abbrev vBool (b : Bool) : ValueM := ⟨2, bif b then 1 else 0, []⟩
abbrev vText (t : List UInt8) : ValueM := ⟨3, 0, t⟩
def inInt (n : Int) : Bool := decide (-2147483648 ≤ n) && decide (n ≤ 2147483647)
def fitM (n : Int) : ValueM × Int := bif inInt n then (vInt n, 0) else (vNil, 4)
/-- Right values. -/
inductive OkV : ValueM → Prop
  | nil : OkV vNil
  | int (n : Int) (h1 : -2147483648 ≤ n) (h2 : n ≤ 2147483647) : OkV (vInt n)
  | bool (b : Bool) : OkV (vBool b)
  | text (t : List UInt8) (h : t.length ≤ 60) : OkV (vText t)
def truthM (v : ValueM) : Bool := v.n != 0 || v.t != []

theorem within_eq' (a b c : Int) (σ : Store) : EE X f_impl_within [int a, int b, int c] σ = some (.bool (decide (b ≤ a) && decide (a ≤ c)), σ) := by
  rw [EE, Ex_run C_impl_within rfl]
  simp (config := {contextual := true, implicitDefEqProofs := false, maxSteps := 1000000}) only [
    ↓PR0, ↓PR1, ↓PR2, PO0, PO1, PO2, PO3, idxV_str, result, resOf, allSome, number, upd, List.map, Option.bind_some, Nat.reduceAdd, Nat.reduceSub, Nat.reduceLeDiff, Nat.reduceLT, Nat.reduceEqDiff, Nat.zero_add, Nat.add_zero, Nat.le_refl, 
    reduceIte, ne_eq, not_false_eq_true, and_self, true_and, and_true, reduceCtorEq, cond_true, cond_false, c_impl_within]
  cases decide (b ≤ a) <;> rfl
theorem l01In_eq' (a b c : Int) (σ : Store) : EE X f_spec_l01In [int a, int b, int c] σ = some (.bool (decide (b ≤ a) && decide (a ≤ c)), σ) := by
  rw [EE, Ex_run C_spec_l01In rfl]
  simp (config := {contextual := true, implicitDefEqProofs := false, maxSteps := 1000000}) only [
    ↓PR0, ↓PR1, ↓PR2, PO0, PO1, PO2, PO3, idxV_str, result, resOf, allSome, number, upd, List.map, Option.bind_some, Nat.reduceAdd, Nat.reduceSub, Nat.reduceLeDiff, Nat.reduceLT, Nat.reduceEqDiff, Nat.zero_add, Nat.add_zero, Nat.le_refl, 
    reduceIte, ne_eq, not_false_eq_true, and_self, true_and, and_true, reduceCtorEq, cond_true, cond_false, c_spec_l01In]
  cases decide (b ≤ a) <;> rfl
theorem ofInt_eq (n : Int) (σ : Store) : EE X f_impl_ofInt [int n] σ = some (.agg (vInt n).cells, σ) := by
  rw [EE, Ex_run C_impl_ofInt rfl]
  simp (config := {contextual := true, implicitDefEqProofs := false, maxSteps := 1000000}) only [
    ↓PR0, ↓PR1, ↓PR2, PO0, PO1, PO2, PO3, idxV_str, result, resOf, allSome, number, upd, List.map, Option.bind_some, Nat.reduceAdd, Nat.reduceSub, Nat.reduceLeDiff, Nat.reduceLT, Nat.reduceEqDiff, Nat.zero_add, Nat.add_zero, Nat.le_refl, 
    reduceIte, ne_eq, not_false_eq_true, and_self, true_and, and_true, reduceCtorEq, cond_true, cond_false, c_impl_ofInt, true_and]
theorem l01Int_eq (n : Int) (σ : Store) : EE X f_spec_l01Int [int n] σ = some (.agg (vInt n).cells, σ) := by
  rw [EE, Ex_run C_spec_l01Int rfl]
  simp (config := {contextual := true, implicitDefEqProofs := false, maxSteps := 1000000}) only [
    ↓PR0, ↓PR1, ↓PR2, PO0, PO1, PO2, PO3, idxV_str, result, resOf, allSome, number, upd, List.map, Option.bind_some, Nat.reduceAdd, Nat.reduceSub, Nat.reduceLeDiff, Nat.reduceLT, Nat.reduceEqDiff, Nat.zero_add, Nat.add_zero, Nat.le_refl, 
    reduceIte, ne_eq, not_false_eq_true, and_self, true_and, and_true, reduceCtorEq, cond_true, cond_false, c_spec_l01Int]
theorem ofText_eq (t : List UInt8) (σ : Store) : EE X f_impl_ofText [.str t] σ = some (.agg (vText t).cells, σ) := by
  rw [EE, Ex_run C_impl_ofText rfl]
  simp (config := {contextual := true, implicitDefEqProofs := false, maxSteps := 1000000}) only [
    ↓PR0, ↓PR1, ↓PR2, PO0, PO1, PO2, PO3, idxV_str, result, resOf, allSome, number, upd, List.map, Option.bind_some, Nat.reduceAdd, Nat.reduceSub, Nat.reduceLeDiff, Nat.reduceLT, Nat.reduceEqDiff, Nat.zero_add, Nat.add_zero, Nat.le_refl, 
    reduceIte, ne_eq, not_false_eq_true, and_self, true_and, and_true, reduceCtorEq, cond_true, cond_false, c_impl_ofText]
theorem l01Text_eq (t : List UInt8) (σ : Store) : EE X f_spec_l01Text [.str t] σ = some (.agg (vText t).cells, σ) := by
  rw [EE, Ex_run C_spec_l01Text rfl]
  simp (config := {contextual := true, implicitDefEqProofs := false, maxSteps := 1000000}) only [
    ↓PR0, ↓PR1, ↓PR2, PO0, PO1, PO2, PO3, idxV_str, result, resOf, allSome, number, upd, List.map, Option.bind_some, Nat.reduceAdd, Nat.reduceSub, Nat.reduceLeDiff, Nat.reduceLT, Nat.reduceEqDiff, Nat.zero_add, Nat.add_zero, Nat.le_refl, 
    reduceIte, ne_eq, not_false_eq_true, and_self, true_and, and_true, reduceCtorEq, cond_true, cond_false, c_spec_l01Text]
theorem ofBool_eq (b : Bool) (σ : Store) : EE X f_impl_ofBool [.bool b] σ = some (.agg (vBool b).cells, σ) := by
  rw [EE, Ex_run C_impl_ofBool rfl]
  simp (config := {contextual := true, implicitDefEqProofs := false, maxSteps := 1000000}) only [
    ↓PR0, ↓PR1, ↓PR2, PO0, PO1, PO2, PO3, idxV_str, result, resOf, allSome, number, upd, List.map, Option.bind_some, Nat.reduceAdd, Nat.reduceSub, Nat.reduceLeDiff, Nat.reduceLT, Nat.reduceEqDiff, Nat.zero_add, Nat.add_zero, Nat.le_refl, 
    reduceIte, ne_eq, not_false_eq_true, and_self, true_and, and_true, reduceCtorEq, cond_true, cond_false, c_impl_ofBool]
  cases b <;> rfl
theorem l01Bit_eq (b : Bool) (σ : Store) : EE X f_spec_l01Bit [.bool b] σ = some (int (bif b then 1 else 0), σ) := by
  rw [EE, Ex_run C_spec_l01Bit rfl]
  simp (config := {contextual := true, implicitDefEqProofs := false, maxSteps := 1000000}) only [
    ↓PR0, ↓PR1, ↓PR2, PO0, PO1, PO2, PO3, idxV_str, result, resOf, allSome, number, upd, List.map, Option.bind_some, Nat.reduceAdd, Nat.reduceSub, Nat.reduceLeDiff, Nat.reduceLT, Nat.reduceEqDiff, Nat.zero_add, Nat.add_zero, Nat.le_refl, 
    reduceIte, ne_eq, not_false_eq_true, and_self, true_and, and_true, reduceCtorEq, cond_true, cond_false, c_spec_l01Bit]
  cases b <;> rfl
theorem l01Bool_eq (b : Bool) (σ : Store) : EE X f_spec_l01Bool [.bool b] σ = some (.agg (vBool b).cells, σ) := by
  rw [EE, Ex_run C_spec_l01Bool rfl]
  simp (config := {contextual := true, implicitDefEqProofs := false, maxSteps := 1000000}) only [
    ↓PR0, ↓PR1, ↓PR2, PO0, PO1, PO2, PO3, idxV_str, result, resOf, allSome, number, upd, List.map, Option.bind_some, Nat.reduceAdd, Nat.reduceSub, Nat.reduceLeDiff, Nat.reduceLT, Nat.reduceEqDiff, Nat.zero_add, Nat.add_zero, Nat.le_refl, 
    reduceIte, ne_eq, not_false_eq_true, and_self, true_and, and_true, reduceCtorEq, cond_true, cond_false, c_spec_l01Bool, l01Bit_eq (X := X)]
theorem inBounds_eq (n : Int) (σ : Store) : EE X f_impl_inBounds [int n] σ = some (.tup [.agg (fitM n).1.cells, int (fitM n).2], σ) := by
  rw [EE, Ex_run C_impl_inBounds rfl]
  simp (config := {contextual := true, implicitDefEqProofs := false, maxSteps := 1000000}) only [
    ↓PR0, ↓PR1, ↓PR2, PO0, PO1, PO2, PO3, idxV_str, result, resOf, allSome, number, upd, List.map, Option.bind_some, Nat.reduceAdd, Nat.reduceSub, Nat.reduceLeDiff, Nat.reduceLT, Nat.reduceEqDiff, Nat.zero_add, Nat.add_zero, Nat.le_refl, 
    reduceIte, ne_eq, not_false_eq_true, and_self, true_and, and_true, reduceCtorEq, cond_true, cond_false, c_impl_inBounds, within_eq' (X := X), ofInt_eq (X := X)]
  simp only [fitM, inInt]
  cases (decide (-2147483648 ≤ n) && decide (n ≤ 2147483647)) <;> rfl
def valueOK (v : ValueM) : Bool :=
  bif v.kind == 0 then (v.n == 0 && v.t == []) else bif v.kind == 1 then (inInt v.n && v.t == []) else bif v.kind == 2 then (decide (0 ≤ v.n) && decide (v.n ≤ 1) && v.t == []) else bif v.kind == 3 then (v.n == 0 && decide ((v.t.length : Int) ≤ 60)) else false
theorem implValueOK_eq (v : ValueM) (σ : Store) : EE X f_impl_ValueOK [.agg v.cells] σ = some (.bool (valueOK v), σ) := by
  rw [EE, Ex_run C_impl_ValueOK rfl]
  simp (config := {contextual := true, implicitDefEqProofs := false, maxSteps := 1000000}) only [
    ↓PR0, ↓PR1, ↓PR2, PO0, PO1, PO2, PO3, idxV_str, result, resOf, allSome, number, upd, List.map, Option.bind_some, Nat.reduceAdd, Nat.reduceSub, Nat.reduceLeDiff, Nat.reduceLT, Nat.reduceEqDiff, Nat.zero_add, Nat.add_zero, Nat.le_refl, 
    reduceIte, ne_eq, not_false_eq_true, and_self, true_and, and_true, reduceCtorEq, cond_true, cond_false, c_impl_ValueOK, ValueM.cells, within_eq' (X := X)]
  simp only [valueOK, inInt]
  cases h0 : v.kind == 0 <;> cases v.kind == 1 <;> cases v.kind == 2 <;> cases v.kind == 3 <;> cases v.n == 0 <;> cases v.t == [] <;> cases (decide (-2147483648 ≤ v.n) && decide (v.n ≤ 2147483647)) <;> cases (decide (0 ≤ v.n) && decide (v.n ≤ 1)) <;> rfl
theorem specValueOK_eq (v : ValueM) (σ : Store) : EE X f_spec_ValueOK [.agg v.cells] σ = some (.bool (valueOK v), σ) := by
  rw [EE, Ex_run C_spec_ValueOK rfl]
  simp (config := {contextual := true, implicitDefEqProofs := false, maxSteps := 1000000}) only [
    ↓PR0, ↓PR1, ↓PR2, PO0, PO1, PO2, PO3, idxV_str, result, resOf, allSome, number, upd, List.map, Option.bind_some, Nat.reduceAdd, Nat.reduceSub, Nat.reduceLeDiff, Nat.reduceLT, Nat.reduceEqDiff, Nat.zero_add, Nat.add_zero, Nat.le_refl, 
    reduceIte, ne_eq, not_false_eq_true, and_self, true_and, and_true, reduceCtorEq, cond_true, cond_false, c_spec_ValueOK, ValueM.cells, l01In_eq' (X := X)]
  simp only [valueOK, inInt]
  cases h0 : v.kind == 0 <;> cases v.kind == 1 <;> cases v.kind == 2 <;> cases v.kind == 3 <;> cases v.n == 0 <;> cases v.t == [] <;> cases (decide (-2147483648 ≤ v.n) && decide (v.n ≤ 2147483647)) <;> cases (decide (0 ≤ v.n) && decide (v.n ≤ 1)) <;> rfl
theorem OkV.ok {v : ValueM} (h : OkV v) : valueOK v = true := by
  cases h with
  | nil => rfl
  | int n h1 h2 => simp [valueOK, inInt, h1, h2]
  | bool b => cases b <;> rfl
  | text t h => simp [valueOK]; omega
theorem ok_iff (v : ValueM) : valueOK v = true → OkV v := by
  intro h
  obtain ⟨k, n, t⟩ := v
  simp only [valueOK] at h
  cases h0 : k == 0 with
  | true =>
    simp only [h0, cond_true, Bool.and_eq_true, beq_iff_eq] at h
    have e : k = 0 := by simpa using h0
    obtain ⟨rfl, rfl⟩ := h
    subst e
    exact .nil
  | false =>
    cases h1 : k == 1 with
    | true =>
      simp only [h0, h1, cond_true, cond_false, Bool.and_eq_true, beq_iff_eq, inInt, decide_eq_true_eq] at h
      have e : k = 1 := by simpa using h1
      obtain ⟨⟨h2, h3⟩, rfl⟩ := h
      subst e
      exact .int n h2 h3
    | false =>
      cases h2 : k == 2 with
      | true =>
        simp only [h0, h1, h2, cond_true, cond_false, Bool.and_eq_true, beq_iff_eq, decide_eq_true_eq] at h
        have e : k = 2 := by simpa using h2
        obtain ⟨⟨h3, h4⟩, rfl⟩ := h
        subst e
        rcases (show n = 0 ∨ n = 1 by omega) with rfl | rfl
        · exact .bool false
        · exact .bool true
      | false =>
        cases h3 : k == 3 with
        | true =>
          simp only [h0, h1, h2, h3, cond_true, cond_false, Bool.and_eq_true, beq_iff_eq, decide_eq_true_eq] at h
          have e : k = 3 := by simpa using h3
          obtain ⟨rfl, h4⟩ := h
          subst e
          exact .text t (by omega)
        | false => simp [h0, h1, h2, h3] at h

end Go.X
