/- Values, written and read back. -/
import Derived.Test.YtiiiciekknpoeaaDoorXD17
import Derived.Test.YtiiiciekknpoeaaDoorXV1
set_option linter.unusedVariables false
set_option linter.unusedSimpArgs false
set_option maxRecDepth 20000
namespace Go.X
open Go Go.Lib
variable {X : Call}

/-- How a value is written. -/
def valW (v : ValueM) : List UInt8 := if v.kind = 1 then itoa v.n else if v.kind = 2 then (if v.n = 1 then [116, 114, 117, 101] else [102, 97, 108, 115, 101]) else if v.kind = 3 then v.t else [110, 117, 108, 108]
theorem formatBool_eq (b : Bool) (σ : Store) : EE X f_strconv_FormatBool [.bool b] σ = some (.str (if b = true then [116, 114, 117, 101] else [102, 97, 108, 115, 101]), σ) := by
  have hin : EE X f_internal_strconv_FormatBool [.bool b] σ = some (.str (if b = true then [116, 114, 117, 101] else [102, 97, 108, 115, 101]), σ) := by
    rw [EE, Ex_run C_internal_strconv_FormatBool rfl]
    cases b with
    | true => simp (config := {contextual := true, implicitDefEqProofs := false, maxSteps := 1000000}) only [
    ↓PR0, ↓PR1, ↓PR2, PO0, PO1, PO2, PO3, idxV_str, result, resOf, allSome, number, upd, List.map, Option.bind_some, Nat.reduceAdd, Nat.reduceSub, Nat.reduceLeDiff, Nat.reduceLT, Nat.reduceEqDiff, Nat.zero_add, Nat.add_zero, Nat.le_refl, 
    reduceIte, ne_eq, not_false_eq_true, and_self, true_and, and_true, reduceCtorEq, cond_true, cond_false, c_internal_strconv_FormatBool]
    | false => simp (config := {contextual := true, implicitDefEqProofs := false, maxSteps := 1000000}) only [
    ↓PR0, ↓PR1, ↓PR2, PO0, PO1, PO2, PO3, idxV_str, result, resOf, allSome, number, upd, List.map, Option.bind_some, Nat.reduceAdd, Nat.reduceSub, Nat.reduceLeDiff, Nat.reduceLT, Nat.reduceEqDiff, Nat.zero_add, Nat.add_zero, Nat.le_refl, 
    reduceIte, ne_eq, not_false_eq_true, and_self, true_and, and_true, reduceCtorEq, cond_true, cond_false, c_internal_strconv_FormatBool, Bool.false_eq_true]
  rw [EE, Ex_run C_strconv_FormatBool rfl]
  simp (config := {contextual := true, implicitDefEqProofs := false, maxSteps := 1000000}) only [
    ↓PR0, ↓PR1, ↓PR2, PO0, PO1, PO2, PO3, idxV_str, result, resOf, allSome, number, upd, List.map, Option.bind_some, Nat.reduceAdd, Nat.reduceSub, Nat.reduceLeDiff, Nat.reduceLT, Nat.reduceEqDiff, Nat.zero_add, Nat.add_zero, Nat.le_refl, 
    reduceIte, ne_eq, not_false_eq_true, and_self, true_and, and_true, reduceCtorEq, cond_true, cond_false, c_strconv_FormatBool, hin]
theorem implValW_eq (hX : LibX X) {v : ValueM} (h : OkV v) (σ : Store) : EE X f_impl_valueText [.agg v.cells] σ = some (.str (valW v), σ) := by
  have e10 : ((1 : Int) == 0) = false := rfl
  have e20 : ((2 : Int) == 0) = false := rfl
  have e21 : ((2 : Int) == 1) = false := rfl
  have e30 : ((3 : Int) == 0) = false := rfl
  have e31 : ((3 : Int) == 1) = false := rfl
  have e32 : ((3 : Int) == 2) = false := rfl
  cases h with
  | nil =>
    rw [EE, Ex_run C_impl_valueText rfl]
    simp (config := {contextual := true, implicitDefEqProofs := false, maxSteps := 1000000}) only [
    ↓PR0, ↓PR1, ↓PR2, PO0, PO1, PO2, PO3, idxV_str, result, resOf, allSome, number, upd, List.map, Option.bind_some, Nat.reduceAdd, Nat.reduceSub, Nat.reduceLeDiff, Nat.reduceLT, Nat.reduceEqDiff, Nat.zero_add, Nat.add_zero, Nat.le_refl, 
    reduceIte, ne_eq, not_false_eq_true, and_self, true_and, and_true, reduceCtorEq, cond_true, cond_false, c_impl_valueText, ValueM.cells, beq_self_eq_true]
    rfl
  | int n h1 h2 =>
    have hi := hX.itoa n σ (by unfold I64; omega)
    rw [EE, Ex_run C_impl_valueText rfl]
    simp (config := {contextual := true, implicitDefEqProofs := false, maxSteps := 1000000}) only [
    ↓PR0, ↓PR1, ↓PR2, PO0, PO1, PO2, PO3, idxV_str, result, resOf, allSome, number, upd, List.map, Option.bind_some, Nat.reduceAdd, Nat.reduceSub, Nat.reduceLeDiff, Nat.reduceLT, Nat.reduceEqDiff, Nat.zero_add, Nat.add_zero, Nat.le_refl, 
    reduceIte, ne_eq, not_false_eq_true, and_self, true_and, and_true, reduceCtorEq, cond_true, cond_false, c_impl_valueText, ValueM.cells, beq_self_eq_true, e10, hi]
    rfl
  | bool b =>
    have h01 : ((0 : Int) == 1) = false := rfl
    have hf := formatBool_eq (X := X) b σ
    rw [EE, Ex_run C_impl_valueText rfl]
    cases b with
    | true =>
      simp only [if_true] at hf
      simp (config := {contextual := true, implicitDefEqProofs := false, maxSteps := 1000000}) only [
    ↓PR0, ↓PR1, ↓PR2, PO0, PO1, PO2, PO3, idxV_str, result, resOf, allSome, number, upd, List.map, Option.bind_some, Nat.reduceAdd, Nat.reduceSub, Nat.reduceLeDiff, Nat.reduceLT, Nat.reduceEqDiff, Nat.zero_add, Nat.add_zero, Nat.le_refl, 
    reduceIte, ne_eq, not_false_eq_true, and_self, true_and, and_true, reduceCtorEq, cond_true, cond_false, c_impl_valueText, ValueM.cells, beq_self_eq_true, e20, e21, hf]
      rfl
    | false =>
      simp only [Bool.false_eq_true, if_false] at hf
      simp (config := {contextual := true, implicitDefEqProofs := false, maxSteps := 1000000}) only [
    ↓PR0, ↓PR1, ↓PR2, PO0, PO1, PO2, PO3, idxV_str, result, resOf, allSome, number, upd, List.map, Option.bind_some, Nat.reduceAdd, Nat.reduceSub, Nat.reduceLeDiff, Nat.reduceLT, Nat.reduceEqDiff, Nat.zero_add, Nat.add_zero, Nat.le_refl, 
    reduceIte, ne_eq, not_false_eq_true, and_self, true_and, and_true, reduceCtorEq, cond_true, cond_false, c_impl_valueText, ValueM.cells, beq_self_eq_true, e20, e21, h01, hf]
      rfl
  | text t h =>
    rw [EE, Ex_run C_impl_valueText rfl]
    simp (config := {contextual := true, implicitDefEqProofs := false, maxSteps := 1000000}) only [
    ↓PR0, ↓PR1, ↓PR2, PO0, PO1, PO2, PO3, idxV_str, result, resOf, allSome, number, upd, List.map, Option.bind_some, Nat.reduceAdd, Nat.reduceSub, Nat.reduceLeDiff, Nat.reduceLT, Nat.reduceEqDiff, Nat.zero_add, Nat.add_zero, Nat.le_refl, 
    reduceIte, ne_eq, not_false_eq_true, and_self, true_and, and_true, reduceCtorEq, cond_true, cond_false, c_impl_valueText, ValueM.cells, e30, e31, e32]
    rfl
theorem specValW_eq {v : ValueM} (h : OkV v) (σ : Store) : EE X f_spec_l01ValueText [.agg v.cells] σ = some (.str (valW v), σ) := by
  have e01 : ((0 : Int) == 1) = false := rfl
  have e02 : ((0 : Int) == 2) = false := rfl
  have e03 : ((0 : Int) == 3) = false := rfl
  have e21 : ((2 : Int) == 1) = false := rfl
  have e31 : ((3 : Int) == 1) = false := rfl
  have e32 : ((3 : Int) == 2) = false := rfl
  cases h with
  | nil =>
    rw [EE, Ex_run C_spec_l01ValueText rfl]
    simp (config := {contextual := true, implicitDefEqProofs := false, maxSteps := 1000000}) only [
    ↓PR0, ↓PR1, ↓PR2, PO0, PO1, PO2, PO3, idxV_str, result, resOf, allSome, number, upd, List.map, Option.bind_some, Nat.reduceAdd, Nat.reduceSub, Nat.reduceLeDiff, Nat.reduceLT, Nat.reduceEqDiff, Nat.zero_add, Nat.add_zero, Nat.le_refl, 
    reduceIte, ne_eq, not_false_eq_true, and_self, true_and, and_true, reduceCtorEq, cond_true, cond_false, c_spec_l01ValueText, ValueM.cells, e01, e02, e03]
    rfl
  | int n h1 h2 =>
    have hi := l00Digits_eq (X := X) n (by unfold I64; omega) σ
    rw [EE, Ex_run C_spec_l01ValueText rfl]
    simp (config := {contextual := true, implicitDefEqProofs := false, maxSteps := 1000000}) only [
    ↓PR0, ↓PR1, ↓PR2, PO0, PO1, PO2, PO3, idxV_str, result, resOf, allSome, number, upd, List.map, Option.bind_some, Nat.reduceAdd, Nat.reduceSub, Nat.reduceLeDiff, Nat.reduceLT, Nat.reduceEqDiff, Nat.zero_add, Nat.add_zero, Nat.le_refl, 
    reduceIte, ne_eq, not_false_eq_true, and_self, true_and, and_true, reduceCtorEq, cond_true, cond_false, c_spec_l01ValueText, ValueM.cells, beq_self_eq_true, hi]
    rfl
  | bool b =>
    rw [EE, Ex_run C_spec_l01ValueText rfl]
    cases b with
    | true =>
      simp (config := {contextual := true, implicitDefEqProofs := false, maxSteps := 1000000}) only [
    ↓PR0, ↓PR1, ↓PR2, PO0, PO1, PO2, PO3, idxV_str, result, resOf, allSome, number, upd, List.map, Option.bind_some, Nat.reduceAdd, Nat.reduceSub, Nat.reduceLeDiff, Nat.reduceLT, Nat.reduceEqDiff, Nat.zero_add, Nat.add_zero, Nat.le_refl, 
    reduceIte, ne_eq, not_false_eq_true, and_self, true_and, and_true, reduceCtorEq, cond_true, cond_false, c_spec_l01ValueText, ValueM.cells, beq_self_eq_true, e21]
      rfl
    | false =>
      simp (config := {contextual := true, implicitDefEqProofs := false, maxSteps := 1000000}) only [
    ↓PR0, ↓PR1, ↓PR2, PO0, PO1, PO2, PO3, idxV_str, result, resOf, allSome, number, upd, List.map, Option.bind_some, Nat.reduceAdd, Nat.reduceSub, Nat.reduceLeDiff, Nat.reduceLT, Nat.reduceEqDiff, Nat.zero_add, Nat.add_zero, Nat.le_refl, 
    reduceIte, ne_eq, not_false_eq_true, and_self, true_and, and_true, reduceCtorEq, cond_true, cond_false, c_spec_l01ValueText, ValueM.cells, beq_self_eq_true, e21, e01]
      rfl
  | text t h =>
    rw [EE, Ex_run C_spec_l01ValueText rfl]
    simp (config := {contextual := true, implicitDefEqProofs := false, maxSteps := 1000000}) only [
    ↓PR0, ↓PR1, ↓PR2, PO0, PO1, PO2, PO3, idxV_str, result, resOf, allSome, number, upd, List.map, Option.bind_some, Nat.reduceAdd, Nat.reduceSub, Nat.reduceLeDiff, Nat.reduceLT, Nat.reduceEqDiff, Nat.zero_add, Nat.add_zero, Nat.le_refl, 
    reduceIte, ne_eq, not_false_eq_true, and_self, true_and, and_true, reduceCtorEq, cond_true, cond_false, c_spec_l01ValueText, ValueM.cells, beq_self_eq_true, e31, e32]
    rfl
theorem implValueText_eq (hX : LibX X) {v : ValueM} (h : OkV v) (σ : Store) : EE X f_impl_ValueText [.agg v.cells] σ = some (.tup [.str (valW v), int 0], σ) := by
  have h1 := implValueOK_eq (X := X) v σ
  rw [h.ok] at h1
  have h2 := implValW_eq hX h σ
  rw [EE, Ex_run C_impl_ValueText rfl]
  simp (config := {contextual := true, implicitDefEqProofs := false, maxSteps := 1000000}) only [
    ↓PR0, ↓PR1, ↓PR2, PO0, PO1, PO2, PO3, idxV_str, result, resOf, allSome, number, upd, List.map, Option.bind_some, Nat.reduceAdd, Nat.reduceSub, Nat.reduceLeDiff, Nat.reduceLT, Nat.reduceEqDiff, Nat.zero_add, Nat.add_zero, Nat.le_refl, 
    reduceIte, ne_eq, not_false_eq_true, and_self, true_and, and_true, reduceCtorEq, cond_true, cond_false, c_impl_ValueText, h1, h2, Bool.not_true]
theorem specValueText_eq {v : ValueM} (h : OkV v) (σ : Store) : EE X f_spec_ValueText [.agg v.cells] σ = some (.tup [.str (valW v), int 0], σ) := by
  have h1 := specValueOK_eq (X := X) v σ
  rw [h.ok] at h1
  have h2 := specValW_eq (X := X) h σ
  rw [EE, Ex_run C_spec_ValueText rfl]
  simp (config := {contextual := true, implicitDefEqProofs := false, maxSteps := 1000000}) only [
    ↓PR0, ↓PR1, ↓PR2, PO0, PO1, PO2, PO3, idxV_str, result, resOf, allSome, number, upd, List.map, Option.bind_some, Nat.reduceAdd, Nat.reduceSub, Nat.reduceLeDiff, Nat.reduceLT, Nat.reduceEqDiff, Nat.zero_add, Nat.add_zero, Nat.le_refl, 
    reduceIte, ne_eq, not_false_eq_true, and_self, true_and, and_true, reduceCtorEq, cond_true, cond_false, c_spec_ValueText, h1, h2, Bool.not_true]
/-- The text that is read back: a text's between quotes. -/
def valR (v : ValueM) : List UInt8 := if v.kind = 3 then quoteM v.t else valW v
theorem num_39 (l r : List UInt8) (h : l = 39 :: r) : numM l = none := by
  have e : tailN l = l := by rw [h]; simp [tailN]
  have hd : decFrom 0 l = none := by rw [h]; rfl
  unfold numM
  rw [e, hd]
  simp
theorem num_quote (t : List UInt8) : numM (quoteM t) = none := num_39 _ _ rfl
set_option maxHeartbeats 1000000 in
theorem readValue_eq (hX : LibX X) {v : ValueM} (h : OkV v) (hp : v.kind = 3 → v.t.all prB = true) (σ : Store) : ∃ σ', EE X f_impl_ReadValue [.str (valR v)] σ = some (.tup [.agg v.cells, int 0], σ') ∧ Pre σ σ' := by
  cases h with
  | nil =>
    have l4 : ¬ ((65536 : Int) < ((4 : Nat) : Int)) := by decide
    refine ⟨σ, ?_, Fr.refl _ _⟩
    rw [EE, Ex_run C_impl_ReadValue rfl]
    show runK _ _ (number 0 (List.map RV.v [AV.str [110, 117, 108, 108]]), _) _ = _
    simp (config := {contextual := true, implicitDefEqProofs := false, maxSteps := 1000000}) only [
    ↓PR0, ↓PR1, ↓PR2, PO0, PO1, PO2, PO3, idxV_str, result, resOf, allSome, number, upd, List.map, Option.bind_some, Nat.reduceAdd, Nat.reduceSub, Nat.reduceLeDiff, Nat.reduceLT, Nat.reduceEqDiff, Nat.zero_add, Nat.add_zero, Nat.le_refl, 
    reduceIte, ne_eq, not_false_eq_true, and_self, true_and, and_true, reduceCtorEq, cond_true, cond_false, c_impl_ReadValue, l4, decide_false, beq_self_eq_true]
  | int n h1 h2 =>
    have hn : numM (itoa n) = some n := numM_itoa ⟨by omega, by omega⟩
    have hl := itoa_len (n := n) (by unfold I64; omega)
    have hne : ∀ s : List UInt8, numM s = none → (itoa n == s) = false := by
      intro s hs
      rw [beq_eq_false_iff_ne]
      intro he
      rw [he, hs] at hn
      cases hn
    have n1 := hne [110, 117, 108, 108] rfl
    have n2 := hne [116, 114, 117, 101] rfl
    have n3 := hne [102, 97, 108, 115, 101] rfl
    have hb : ¬ (65536 : Int) < ((itoa n).length : Int) := by omega
    obtain ⟨m, k1, k2⟩ := number_eq hX (itoa n) (by omega) σ
    have hm := k2 n hn
    subst hm
    rw [hn, Option.isSome_some] at k1
    have hw := within_eq (X := X) m (-2147483648) 2147483647 σ
    have ht : (decide (-2147483648 ≤ m) && decide (m ≤ 2147483647)) = true := by simp [h1, h2]
    rw [ht] at hw
    have hof := ofInt_eq (X := X) m σ
    refine ⟨σ, ?_, Fr.refl _ _⟩
    rw [EE, Ex_run C_impl_ReadValue rfl]
    show runK _ _ (number 0 (List.map RV.v [AV.str (itoa m)]), _) _ = _
    simp (config := {contextual := true, implicitDefEqProofs := false, maxSteps := 1000000}) only [
    ↓PR0, ↓PR1, ↓PR2, PO0, PO1, PO2, PO3, idxV_str, result, resOf, allSome, number, upd, List.map, Option.bind_some, Nat.reduceAdd, Nat.reduceSub, Nat.reduceLeDiff, Nat.reduceLT, Nat.reduceEqDiff, Nat.zero_add, Nat.add_zero, Nat.le_refl, 
    reduceIte, ne_eq, not_false_eq_true, and_self, true_and, and_true, reduceCtorEq, cond_true, cond_false, c_impl_ReadValue, hb, decide_false, n1, n2, n3, k1, hw, Bool.not_true, hof]
  | bool b =>
    have l4 : ¬ ((65536 : Int) < ((4 : Nat) : Int)) := by decide
    have l5 : ¬ ((65536 : Int) < ((5 : Nat) : Int)) := by decide
    have hof := ofBool_eq (X := X) b σ
    refine ⟨σ, ?_, Fr.refl _ _⟩
    rw [EE, Ex_run C_impl_ReadValue rfl]
    cases b with
    | true =>
      have q1 : (([116, 114, 117, 101] : List UInt8) == [110, 117, 108, 108]) = false := by decide
      show runK _ _ (number 0 (List.map RV.v [AV.str [116, 114, 117, 101]]), _) _ = _
      simp (config := {contextual := true, implicitDefEqProofs := false, maxSteps := 1000000}) only [
    ↓PR0, ↓PR1, ↓PR2, PO0, PO1, PO2, PO3, idxV_str, result, resOf, allSome, number, upd, List.map, Option.bind_some, Nat.reduceAdd, Nat.reduceSub, Nat.reduceLeDiff, Nat.reduceLT, Nat.reduceEqDiff, Nat.zero_add, Nat.add_zero, Nat.le_refl, 
    reduceIte, ne_eq, not_false_eq_true, and_self, true_and, and_true, reduceCtorEq, cond_true, cond_false, c_impl_ReadValue, l4, decide_false, q1, beq_self_eq_true, hof]
      rfl
    | false =>
      have q1 : (([102, 97, 108, 115, 101] : List UInt8) == [110, 117, 108, 108]) = false := by decide
      have q2 : (([102, 97, 108, 115, 101] : List UInt8) == [116, 114, 117, 101]) = false := by decide
      show runK _ _ (number 0 (List.map RV.v [AV.str [102, 97, 108, 115, 101]]), _) _ = _
      simp (config := {contextual := true, implicitDefEqProofs := false, maxSteps := 1000000}) only [
    ↓PR0, ↓PR1, ↓PR2, PO0, PO1, PO2, PO3, idxV_str, result, resOf, allSome, number, upd, List.map, Option.bind_some, Nat.reduceAdd, Nat.reduceSub, Nat.reduceLeDiff, Nat.reduceLT, Nat.reduceEqDiff, Nat.zero_add, Nat.add_zero, Nat.le_refl, 
    reduceIte, ne_eq, not_false_eq_true, and_self, true_and, and_true, reduceCtorEq, cond_true, cond_false, c_impl_ReadValue, l5, decide_false, q1, q2, beq_self_eq_true, hof]
      rfl
  | text t h =>
    have hpt := hp rfl
    have hq := quoteAt_quoteM hpt
    have hlq : (quoteM t).length ≤ 122 := by
      have := esc_len t
      simp only [quoteM, List.length_cons, List.length_append, List.length_nil]; omega
    have hl0 : 0 < (quoteM t).length := by simp [quoteM]
    have hb : ¬ (65536 : Int) < ((quoteM t).length : Int) := by omega
    have n1 : (quoteM t == [110, 117, 108, 108]) = false := by simp [quoteM]
    have n2 : (quoteM t == [116, 114, 117, 101]) = false := by simp [quoteM]
    have n3 : (quoteM t == [102, 97, 108, 115, 101]) = false := by simp [quoteM]
    obtain ⟨m, k1, _⟩ := number_eq hX (quoteM t) (by omega) σ
    rw [num_quote, Option.isSome_none] at k1
    obtain ⟨σ', q1, q2⟩ := quoted_eq (X := X) (quoteM t) 0 hl0 (by omega) σ
    have h60 : (t.length : Int) ≤ 60 := by omega
    have e : qR ((quoteM t).drop 0) 0 = (t, (((quoteM t).length : Nat) : Int), true) := by
      rw [List.drop_zero]
      simp only [qR, hq, Nat.zero_add, h60, decide_true]
    rw [e] at q1
    simp only [Int.cast_ofNat_Int] at q1
    have hof := ofText_eq (X := X) t σ'
    refine ⟨σ', ?_, q2⟩
    rw [EE, Ex_run C_impl_ReadValue rfl]
    show runK _ _ (number 0 (List.map RV.v [AV.str (quoteM t)]), _) _ = _
    simp (config := {contextual := true, implicitDefEqProofs := false, maxSteps := 1000000}) only [
    ↓PR0, ↓PR1, ↓PR2, PO0, PO1, PO2, PO3, idxV_str, result, resOf, allSome, number, upd, List.map, Option.bind_some, Nat.reduceAdd, Nat.reduceSub, Nat.reduceLeDiff, Nat.reduceLT, Nat.reduceEqDiff, Nat.zero_add, Nat.add_zero, Nat.le_refl, 
    reduceIte, ne_eq, not_false_eq_true, and_self, true_and, and_true, reduceCtorEq, cond_true, cond_false, c_impl_ReadValue, hb, decide_false, n1, n2, n3, k1, q1, beq_self_eq_true, hof]
end Go.X
