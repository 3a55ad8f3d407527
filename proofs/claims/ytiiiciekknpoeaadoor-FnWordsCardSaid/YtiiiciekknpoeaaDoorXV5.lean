/- Values: builtins on texts; choices that a law makes out of bytes. -/
import Derived.Test.YtiiiciekknpoeaaDoorXVd
set_option linter.unusedVariables false
set_option linter.unusedSimpArgs false
set_option maxRecDepth 20000
namespace Go.X
open Go
variable {X : Call}

def RValue : Rp ValueM := fun _ m cs => cs = m.cells ∧ I64 m.kind ∧ I64 m.n ∧ LenOk m.t.length
theorem RValue.mono : Mono RValue := fun _ _ _ _ h => h
theorem OkV.r {v : ValueM} (h : OkV v) : I64 v.kind ∧ I64 v.n ∧ LenOk v.t.length := by
  have h1 := h.small
  have h2 := h.len
  refine ⟨?_, by unfold Small at h1; unfold I64; omega, by unfold LenOk; omega⟩
  cases h <;> (simp only [I64]; omega)
/-- A slice of values that was written out. -/
theorem vlits (σ : Store) (l : List ValueM) (h : ∀ v ∈ l, OkV v) : RS RValue 3 (σ ++ [⟨l.map ValueM.cells, 3, 0, .own⟩]) l (.sl σ.length 0 0 l.length) :=
  ⟨_, by simpa using SlAt.new σ (l.map ValueM.cells) 3, All2.map (fun v hv => ⟨rfl, (h v hv).r⟩)⟩

theorem valuesOK_eq (σ : Store) (l : List ValueM) (a : AV) (ha : RS RValue 3 σ l a) (hok : ∀ v ∈ l, OkV v) (h6 : l.length ≤ 1048576) : EE X f_impl_valuesOK [a] σ = some (.bool true, σ) := by
  have hcl : ∀ v ∈ l, EE X f_impl_valuesOK_1 [.agg v.cells] σ = some (.bool false, σ) := by
    intro v hv
    have h1 := implValueOK_eq (X := X) v σ
    rw [(hok v hv).ok] at h1
    simp only [ValueM.cells] at h1
    rw [EE, Ex_run C_impl_valuesOK_1 rfl]
    simp (config := {contextual := true, implicitDefEqProofs := false, maxSteps := 1000000}) only [
    ↓PR0, ↓PR1, ↓PR2, PO0, PO1, PO2, PO3, idxV_str, result, resOf, allSome, number, upd, List.map, Option.bind_some, Nat.reduceAdd, Nat.reduceSub, Nat.reduceLeDiff, Nat.reduceLT, Nat.reduceEqDiff, Nat.zero_add, Nat.add_zero, Nat.le_refl, 
    reduceIte, ne_eq, not_false_eq_true, and_self, true_and, and_true, reduceCtorEq, cond_true, cond_false, c_impl_valuesOK_1, ValueM.cells, h1, Bool.not_true]
  have loop : ∀ (kk : Out → S → Option (AV × Store)) d i, i + d = l.length →
      loopK (EE X) [0, 1, 7, 8] l_slices_IndexFunc_impl_Value_0 ([(0, .v a), (1, .v (.fn f_impl_valuesOK_1 [])), (7, .v (int l.length)), (8, .v (int i))], ⟨[], σ⟩) kk =
      kk (.exit 0) ([(0, .v a), (1, .v (.fn f_impl_valuesOK_1 [])), (7, .v (int l.length)), (8, .v (int l.length)), (9, .v (.bool false))], ⟨[], σ⟩) := by
    intro kk d
    induction d with
    | zero =>
      intro i hi
      have e : i = l.length := by omega
      subst e
      rw [loopK_step l_slices_IndexFunc_impl_Value_0.eq_1]
      simp (config := {contextual := true, implicitDefEqProofs := false, maxSteps := 1000000}) only [
    ↓PR0, ↓PR1, ↓PR2, PO0, PO1, PO2, PO3, idxV_str, result, resOf, allSome, number, upd, List.map, Option.bind_some, Nat.reduceAdd, Nat.reduceSub, Nat.reduceLeDiff, Nat.reduceLT, Nat.reduceEqDiff, Nat.zero_add, Nat.add_zero, Nat.le_refl, 
    reduceIte, ne_eq, not_false_eq_true, and_self, true_and, and_true, reduceCtorEq, cond_true, cond_false, Int.lt_irrefl, decide_false]
    | succ d ih =>
      intro i hi
      have hlt : i < l.length := by omega
      have hlt' : (i : Int) < (l.length : Int) := by omega
      have hw : IntKind.i64.wrap ((i : Int) + 1) = ((i + 1 : Nat) : Int) := wrap64 (by omega) (by omega)
      obtain ⟨cs, ⟨hp', _⟩, ha1, ha2, ha3, ha4⟩ := ha.get (List.getElem?_eq_getElem hlt)
      subst hp'
      have hc := hcl l[i] (List.getElem_mem hlt)
      have hld : ld true 3 0 l[i].cells = some (.agg l[i].cells) := ld_all rfl
      rw [← ih (i + 1) (by omega), loopK_step l_slices_IndexFunc_impl_Value_0.eq_1]
      simp (config := {contextual := true, implicitDefEqProofs := false, maxSteps := 1000000}) only [
    ↓PR0, ↓PR1, ↓PR2, PO0, PO1, PO2, PO3, idxV_str, result, resOf, allSome, number, upd, List.map, Option.bind_some, Nat.reduceAdd, Nat.reduceSub, Nat.reduceLeDiff, Nat.reduceLT, Nat.reduceEqDiff, Nat.zero_add, Nat.add_zero, Nat.le_refl, 
    reduceIte, ne_eq, not_false_eq_true, and_self, true_and, and_true, reduceCtorEq, cond_true, cond_false, hlt', decide_true, ha1, ha2, hld, hc, hw]
  have hl := fun kk => loop kk l.length 0 (by omega)
  simp only [Int.cast_ofNat_Int] at hl
  have ix : EE X f_slices_IndexFunc_impl_Value [a, .fn f_impl_valuesOK_1 []] σ = some (int (-1), σ) := by
    rw [EE, Ex_run C_slices_IndexFunc_impl_Value rfl]
    simp (config := {contextual := true, implicitDefEqProofs := false, maxSteps := 1000000}) only [
    ↓PR0, ↓PR1, ↓PR2, PO0, PO1, PO2, PO3, idxV_str, result, resOf, allSome, number, upd, List.map, Option.bind_some, Nat.reduceAdd, Nat.reduceSub, Nat.reduceLeDiff, Nat.reduceLT, Nat.reduceEqDiff, Nat.zero_add, Nat.add_zero, Nat.le_refl, 
    reduceIte, ne_eq, not_false_eq_true, and_self, true_and, and_true, reduceCtorEq, cond_true, cond_false, c_slices_IndexFunc_impl_Value, ha.len, hl]
  have h0 : ¬ ((0 : Int) ≤ -1) := by decide
  have cf : EE X f_slices_ContainsFunc_impl_Value [a, .fn f_impl_valuesOK_1 []] σ = some (.bool false, σ) := by
    rw [EE, Ex_run C_slices_ContainsFunc_impl_Value rfl]
    simp (config := {contextual := true, implicitDefEqProofs := false, maxSteps := 1000000}) only [
    ↓PR0, ↓PR1, ↓PR2, PO0, PO1, PO2, PO3, idxV_str, result, resOf, allSome, number, upd, List.map, Option.bind_some, Nat.reduceAdd, Nat.reduceSub, Nat.reduceLeDiff, Nat.reduceLT, Nat.reduceEqDiff, Nat.zero_add, Nat.add_zero, Nat.le_refl, 
    reduceIte, ne_eq, not_false_eq_true, and_self, true_and, and_true, reduceCtorEq, cond_true, cond_false, c_slices_ContainsFunc_impl_Value, ix, h0, decide_false]
  rw [EE, Ex_run C_impl_valuesOK rfl]
  simp (config := {contextual := true, implicitDefEqProofs := false, maxSteps := 1000000}) only [
    ↓PR0, ↓PR1, ↓PR2, PO0, PO1, PO2, PO3, idxV_str, result, resOf, allSome, number, upd, List.map, Option.bind_some, Nat.reduceAdd, Nat.reduceSub, Nat.reduceLeDiff, Nat.reduceLT, Nat.reduceEqDiff, Nat.zero_add, Nat.add_zero, Nat.le_refl, 
    reduceIte, ne_eq, not_false_eq_true, and_self, true_and, and_true, reduceCtorEq, cond_true, cond_false, c_impl_valuesOK, cf, Bool.not_false]

abbrev nLen : List UInt8 := [108, 101, 110]
abbrev nCut : List UInt8 := [99, 117, 116]
abbrev nAt : List UInt8 := [97, 116]
theorem kinds_len (σ : Store) : EE X f_impl_builtinKinds [.str nLen] σ = some (.tup [.sl σ.length 0 0 1, .bool true], σ ++ [⟨[[int 3]], 1, 0, .own⟩]) := by
  have r1 : List.replicate 1 [AV.int .i64 0] = [[.int .i64 0]] := rfl
  rw [EE, Ex_run C_impl_builtinKinds rfl]
  simp (config := {contextual := true, implicitDefEqProofs := false, maxSteps := 1000000}) only [
    ↓PR0, ↓PR1, ↓PR2, PO0, PO1, PO2, PO3, idxV_str, result, resOf, allSome, number, upd, List.map, Option.bind_some, Nat.reduceAdd, Nat.reduceSub, Nat.reduceLeDiff, Nat.reduceLT, Nat.reduceEqDiff, Nat.zero_add, Nat.add_zero, Nat.le_refl, 
    reduceIte, ne_eq, not_false_eq_true, and_self, true_and, and_true, reduceCtorEq, cond_true, cond_false, c_impl_builtinKinds, beq_self_eq_true, r1, List.set_cons_zero]
theorem kinds_cut (σ : Store) : EE X f_impl_builtinKinds [.str nCut] σ = some (.tup [.sl σ.length 0 0 3, .bool true], σ ++ [⟨[[int 3], [int 1], [int 1]], 1, 0, .own⟩]) := by
  have r3 : List.replicate 3 [AV.int .i64 0] = [[.int .i64 0], [.int .i64 0], [.int .i64 0]] := rfl
  have b1 : (nCut == [108, 101, 110]) = false := by decide
  have b2 : (nCut == [115, 116, 114]) = false := by decide
  have b3 : (nCut == [97, 98, 115]) = false := by decide
  have b4 : (nCut == [97, 116]) = false := by decide
  have b5 : (nCut == [109, 97, 120]) = false := by decide
  have b6 : (nCut == [109, 105, 110]) = false := by decide
  rw [EE, Ex_run C_impl_builtinKinds rfl]
  simp (config := {contextual := true, implicitDefEqProofs := false, maxSteps := 1000000}) only [
    ↓PR0, ↓PR1, ↓PR2, PO0, PO1, PO2, PO3, idxV_str, result, resOf, allSome, number, upd, List.map, Option.bind_some, Nat.reduceAdd, Nat.reduceSub, Nat.reduceLeDiff, Nat.reduceLT, Nat.reduceEqDiff, Nat.zero_add, Nat.add_zero, Nat.le_refl, 
    reduceIte, ne_eq, not_false_eq_true, and_self, true_and, and_true, reduceCtorEq, cond_true, cond_false, c_impl_builtinKinds, b1, b2, b3, b4, b5, b6, beq_self_eq_true, r3, List.set_cons_zero, List.set_cons_succ]
theorem kinds_at (σ : Store) : EE X f_impl_builtinKinds [.str nAt] σ = some (.tup [.sl σ.length 0 0 2, .bool true], σ ++ [⟨[[int 3], [int 1]], 1, 0, .own⟩]) := by
  have r2 : List.replicate 2 [AV.int .i64 0] = [[.int .i64 0], [.int .i64 0]] := rfl
  have b1 : (nAt == [108, 101, 110]) = false := by decide
  have b2 : (nAt == [115, 116, 114]) = false := by decide
  have b3 : (nAt == [97, 98, 115]) = false := by decide
  rw [EE, Ex_run C_impl_builtinKinds rfl]
  simp (config := {contextual := true, implicitDefEqProofs := false, maxSteps := 1000000}) only [
    ↓PR0, ↓PR1, ↓PR2, PO0, PO1, PO2, PO3, idxV_str, result, resOf, allSome, number, upd, List.map, Option.bind_some, Nat.reduceAdd, Nat.reduceSub, Nat.reduceLeDiff, Nat.reduceLT, Nat.reduceEqDiff, Nat.zero_add, Nat.add_zero, Nat.le_refl, 
    reduceIte, ne_eq, not_false_eq_true, and_self, true_and, and_true, reduceCtorEq, cond_true, cond_false, c_impl_builtinKinds, b1, b2, b3, beq_self_eq_true, r2, List.set_cons_zero, List.set_cons_succ]
end Go.X
