/- Tokens: how one is written; the law of TokenText. -/
import Derived.Test.YtiiiciekknpoeaaGreatDoorXD6
set_option linter.unusedVariables false
set_option linter.unusedSimpArgs false
set_option maxRecDepth 20000
namespace Go.X
open Go Go.Lib
variable {X : Call}

/-- What is a token. -/
def tokB (k : Int) (t : List UInt8) : Bool :=
  if k = 1 then identM t else if k = 2 then wordOK t else if k = 3 then intM t else if k = 4 then plainM t else if k = 5 then signM t else false
/-- How a token is written. -/
def tokT (k : Int) (t : List UInt8) : List UInt8 := if k = 4 then quoteM t else t
theorem numM_int {t : List UInt8} {v : Int} (h : numM t = some v) : intM t = (decide (0 ≤ v) && decide (v ≤ 2147483647)) := by simp only [intM, h]
set_option maxHeartbeats 1000000 in
theorem l02Token_eq (k p : Int) (t : List UInt8) (ht : t.length ≤ 1048576) (σ : Store) : ∃ σ', EE X f_spec_l02Token [.agg [int k, int p, .str t]] σ = some (.bool (tokB k t), σ') ∧ Pre σ σ' := by
  have htl : LenOk t.length := by unfold LenOk; omega
  by_cases h1 : k = 1
  · subst h1
    obtain ⟨σ', w1, w2⟩ := specWordOK_eq (X := X) t σ
    have hn := specNameOK_eq (X := X) t σ htl
    have e : tokB 1 t = identM t := rfl
    cases hb : nameOK t with
    | false =>
      rw [hb] at hn
      refine ⟨σ, ?_, Fr.refl _ _⟩
      rw [e, EE, Ex_run C_spec_l02Token rfl]
      simp (config := {contextual := true, implicitDefEqProofs := false, maxSteps := 1000000}) only [
    ↓PR0, ↓PR1, ↓PR2, PO0, PO1, PO2, PO3, idxV_str, result, resOf, allSome, number, upd, List.map, Option.bind_some, Nat.reduceAdd, Nat.reduceSub, Nat.reduceLeDiff, Nat.reduceLT, Nat.reduceEqDiff, Nat.zero_add, Nat.add_zero, Nat.le_refl, 
    reduceIte, ne_eq, not_false_eq_true, and_self, true_and, and_true, reduceCtorEq, cond_true, cond_false, c_spec_l02Token, hn, beq_self_eq_true]
      simp only [identM, hb, Bool.false_and]
    | true =>
      rw [hb] at hn
      by_cases h20 : (t.length : Int) ≤ 20
      · refine ⟨σ', ?_, w2⟩
        rw [e, EE, Ex_run C_spec_l02Token rfl]
        simp (config := {contextual := true, implicitDefEqProofs := false, maxSteps := 1000000}) only [
    ↓PR0, ↓PR1, ↓PR2, PO0, PO1, PO2, PO3, idxV_str, result, resOf, allSome, number, upd, List.map, Option.bind_some, Nat.reduceAdd, Nat.reduceSub, Nat.reduceLeDiff, Nat.reduceLT, Nat.reduceEqDiff, Nat.zero_add, Nat.add_zero, Nat.le_refl, 
    reduceIte, ne_eq, not_false_eq_true, and_self, true_and, and_true, reduceCtorEq, cond_true, cond_false, c_spec_l02Token, hn, w1, h20, decide_true, beq_self_eq_true]
        simp only [identM, hb, h20, decide_true, Bool.true_and]
      · refine ⟨σ, ?_, Fr.refl _ _⟩
        rw [e, EE, Ex_run C_spec_l02Token rfl]
        simp (config := {contextual := true, implicitDefEqProofs := false, maxSteps := 1000000}) only [
    ↓PR0, ↓PR1, ↓PR2, PO0, PO1, PO2, PO3, idxV_str, result, resOf, allSome, number, upd, List.map, Option.bind_some, Nat.reduceAdd, Nat.reduceSub, Nat.reduceLeDiff, Nat.reduceLT, Nat.reduceEqDiff, Nat.zero_add, Nat.add_zero, Nat.le_refl, 
    reduceIte, ne_eq, not_false_eq_true, and_self, true_and, and_true, reduceCtorEq, cond_true, cond_false, c_spec_l02Token, hn, h20, decide_false, beq_self_eq_true]
        simp only [identM, hb, h20, decide_false, Bool.true_and, Bool.false_and]
  by_cases h2 : k = 2
  · subst h2
    obtain ⟨σ', w1, w2⟩ := specWordOK_eq (X := X) t σ
    have e : tokB 2 t = wordOK t := rfl
    have e1 : ((2 : Int) == 1) = false := rfl
    refine ⟨σ', ?_, w2⟩
    rw [e, EE, Ex_run C_spec_l02Token rfl]
    simp (config := {contextual := true, implicitDefEqProofs := false, maxSteps := 1000000}) only [
    ↓PR0, ↓PR1, ↓PR2, PO0, PO1, PO2, PO3, idxV_str, result, resOf, allSome, number, upd, List.map, Option.bind_some, Nat.reduceAdd, Nat.reduceSub, Nat.reduceLeDiff, Nat.reduceLT, Nat.reduceEqDiff, Nat.zero_add, Nat.add_zero, Nat.le_refl, 
    reduceIte, ne_eq, not_false_eq_true, and_self, true_and, and_true, reduceCtorEq, cond_true, cond_false, c_spec_l02Token, e1, w1, beq_self_eq_true]
  by_cases h3 : k = 3
  · subst h3
    have hn := l00Number_eq (X := X) t htl σ
    have e : tokB 3 t = intM t := rfl
    have e1 : ((3 : Int) == 1) = false := rfl
    have e2 : ((3 : Int) == 2) = false := rfl
    refine ⟨σ, ?_, Fr.refl _ _⟩
    cases hv : numM t with
    | none =>
      have e3 : numV t = (0, false) := by simp only [numV, hv]
      rw [e3] at hn
      simp only at hn
      rw [e, EE, Ex_run C_spec_l02Token rfl]
      simp (config := {contextual := true, implicitDefEqProofs := false, maxSteps := 1000000}) only [
    ↓PR0, ↓PR1, ↓PR2, PO0, PO1, PO2, PO3, idxV_str, result, resOf, allSome, number, upd, List.map, Option.bind_some, Nat.reduceAdd, Nat.reduceSub, Nat.reduceLeDiff, Nat.reduceLT, Nat.reduceEqDiff, Nat.zero_add, Nat.add_zero, Nat.le_refl, 
    reduceIte, ne_eq, not_false_eq_true, and_self, true_and, and_true, reduceCtorEq, cond_true, cond_false, c_spec_l02Token, e1, e2, hn, beq_self_eq_true]
      simp only [intM, hv]
    | some v =>
      have e3 : numV t = (v, true) := by simp only [numV, hv]
      rw [e3] at hn
      simp only at hn
      obtain ⟨n1, n2, n3, n4, n5⟩ := numM_some hv
      have e18 : (10 : Int) ^ 18 = 1000000000000000000 := rfl
      have hd := l00Digits_eq (X := X) v (by unfold I64; omega) σ
      rw [n2] at hd
      have hin := l01In_eq (X := X) v 0 2147483647 σ
      have hr : (t == t) = true := by simp
      cases hb : (decide (0 ≤ v) && decide (v ≤ 2147483647)) with
      | false =>
        rw [hb] at hin
        rw [e, EE, Ex_run C_spec_l02Token rfl]
        simp (config := {contextual := true, implicitDefEqProofs := false, maxSteps := 1000000}) only [
    ↓PR0, ↓PR1, ↓PR2, PO0, PO1, PO2, PO3, idxV_str, result, resOf, allSome, number, upd, List.map, Option.bind_some, Nat.reduceAdd, Nat.reduceSub, Nat.reduceLeDiff, Nat.reduceLT, Nat.reduceEqDiff, Nat.zero_add, Nat.add_zero, Nat.le_refl, 
    reduceIte, ne_eq, not_false_eq_true, and_self, true_and, and_true, reduceCtorEq, cond_true, cond_false, c_spec_l02Token, e1, e2, hn, hin, beq_self_eq_true]
        rw [numM_int hv, hb]
      | true =>
        rw [hb] at hin
        rw [e, EE, Ex_run C_spec_l02Token rfl]
        simp (config := {contextual := true, implicitDefEqProofs := false, maxSteps := 1000000}) only [
    ↓PR0, ↓PR1, ↓PR2, PO0, PO1, PO2, PO3, idxV_str, result, resOf, allSome, number, upd, List.map, Option.bind_some, Nat.reduceAdd, Nat.reduceSub, Nat.reduceLeDiff, Nat.reduceLT, Nat.reduceEqDiff, Nat.zero_add, Nat.add_zero, Nat.le_refl, 
    reduceIte, ne_eq, not_false_eq_true, and_self, true_and, and_true, reduceCtorEq, cond_true, cond_false, c_spec_l02Token, e1, e2, hn, hin, hd, hr, beq_self_eq_true]
        rw [numM_int hv, hb]
  by_cases h4 : k = 4
  · subst h4
    have hp := l02Plain_eq (X := X) t σ htl
    have e : tokB 4 t = plainM t := rfl
    have e1 : ((4 : Int) == 1) = false := rfl
    have e2 : ((4 : Int) == 2) = false := rfl
    have e3 : ((4 : Int) == 3) = false := rfl
    refine ⟨σ, ?_, Fr.refl _ _⟩
    rw [e, EE, Ex_run C_spec_l02Token rfl]
    simp (config := {contextual := true, implicitDefEqProofs := false, maxSteps := 1000000}) only [
    ↓PR0, ↓PR1, ↓PR2, PO0, PO1, PO2, PO3, idxV_str, result, resOf, allSome, number, upd, List.map, Option.bind_some, Nat.reduceAdd, Nat.reduceSub, Nat.reduceLeDiff, Nat.reduceLT, Nat.reduceEqDiff, Nat.zero_add, Nat.add_zero, Nat.le_refl, 
    reduceIte, ne_eq, not_false_eq_true, and_self, true_and, and_true, reduceCtorEq, cond_true, cond_false, c_spec_l02Token, e1, e2, e3, hp, beq_self_eq_true]
  by_cases h5 : k = 5
  · subst h5
    have e : tokB 5 t = signM t := rfl
    have e1 : ((5 : Int) == 1) = false := rfl
    have e2 : ((5 : Int) == 2) = false := rfl
    have e3 : ((5 : Int) == 3) = false := rfl
    have e4 : ((5 : Int) == 4) = false := rfl
    refine ⟨σ, ?_, Fr.refl _ _⟩
    match t, ht, e with
    | [], ht, e =>
      have l0 : (((0 : Nat) : Int) == 1) = false := rfl
      rw [e, EE, Ex_run C_spec_l02Token rfl]
      simp (config := {contextual := true, implicitDefEqProofs := false, maxSteps := 1000000}) only [
    ↓PR0, ↓PR1, ↓PR2, PO0, PO1, PO2, PO3, result, resOf, allSome, number, upd, List.map, Option.bind_some, Nat.reduceAdd, Nat.reduceSub, Nat.reduceLeDiff, Nat.reduceLT, Nat.reduceEqDiff, Nat.zero_add, Nat.add_zero, Nat.le_refl, reduceIte, 
    ne_eq, not_false_eq_true, and_self, true_and, and_true, reduceCtorEq, cond_true, cond_false, c_spec_l02Token, e1, e2, e3, e4, l0, beq_self_eq_true]
      rfl
    | [b], ht, e =>
      have l1 : (((1 : Nat) : Int) == 1) = true := rfl
      have ixb : idxV (.str [b]) (int 0) = some (.int .u8 (b.toNat : Nat)) := idx_nat [b] (i := 0) (by simp)
      have hs := l02Sign_eq (X := X) b σ
      have ht := signs_two b
      have es : signM [b] = signs15.contains b := rfl
      have n1 : ([b] != [38]) = (b != 38) := by simp [bne]
      have n2 : ([b] != [124]) = (b != 124) := by simp [bne]
      rw [e, es, ← ht, EE, Ex_run C_spec_l02Token rfl]
      cases h6 : signs17.contains b with
      | false =>
        rw [h6] at hs
        simp (config := {contextual := true, implicitDefEqProofs := false, maxSteps := 1000000}) only [
    ↓PR0, ↓PR1, ↓PR2, PO0, PO1, PO2, PO3, result, resOf, allSome, number, upd, List.map, Option.bind_some, Nat.reduceAdd, Nat.reduceSub, Nat.reduceLeDiff, Nat.reduceLT, Nat.reduceEqDiff, Nat.zero_add, Nat.add_zero, Nat.le_refl, reduceIte, 
    ne_eq, not_false_eq_true, and_self, true_and, and_true, reduceCtorEq, cond_true, cond_false, c_spec_l02Token, e1, e2, e3, e4, l1, ixb, hs, beq_self_eq_true]
        rfl
      | true =>
        rw [h6] at hs
        cases h7 : b != 38 with
        | false =>
          simp (config := {contextual := true, implicitDefEqProofs := false, maxSteps := 1000000}) only [
    ↓PR0, ↓PR1, ↓PR2, PO0, PO1, PO2, PO3, result, resOf, allSome, number, upd, List.map, Option.bind_some, Nat.reduceAdd, Nat.reduceSub, Nat.reduceLeDiff, Nat.reduceLT, Nat.reduceEqDiff, Nat.zero_add, Nat.add_zero, Nat.le_refl, reduceIte, 
    ne_eq, not_false_eq_true, and_self, true_and, and_true, reduceCtorEq, cond_true, cond_false, c_spec_l02Token, e1, e2, e3, e4, l1, ixb, hs, n1, h7, beq_self_eq_true]
          rfl
        | true =>
          simp (config := {contextual := true, implicitDefEqProofs := false, maxSteps := 1000000}) only [
    ↓PR0, ↓PR1, ↓PR2, PO0, PO1, PO2, PO3, result, resOf, allSome, number, upd, List.map, Option.bind_some, Nat.reduceAdd, Nat.reduceSub, Nat.reduceLeDiff, Nat.reduceLT, Nat.reduceEqDiff, Nat.zero_add, Nat.add_zero, Nat.le_refl, reduceIte, 
    ne_eq, not_false_eq_true, and_self, true_and, and_true, reduceCtorEq, cond_true, cond_false, c_spec_l02Token, e1, e2, e3, e4, l1, ixb, hs, n1, h7, n2, beq_self_eq_true]
          rfl
    | b :: c :: r, ht, e =>
      have l2 : (((r.length + 1 + 1 : Nat) : Int) == 1) = false := by rw [beq_eq_false_iff_ne]; omega
      have es : signM (b :: c :: r) = ((b :: c :: r) == [61, 61] || (b :: c :: r) == [38, 38] || (b :: c :: r) == [124, 124]) := rfl
      rw [e, es, EE, Ex_run C_spec_l02Token rfl]
      cases h6 : (b :: c :: r) == [61, 61] with
      | true =>
        simp (config := {contextual := true, implicitDefEqProofs := false, maxSteps := 1000000}) only [
    ↓PR0, ↓PR1, ↓PR2, PO0, PO1, PO2, PO3, result, resOf, allSome, number, upd, List.map, Option.bind_some, Nat.reduceAdd, Nat.reduceSub, Nat.reduceLeDiff, Nat.reduceLT, Nat.reduceEqDiff, Nat.zero_add, Nat.add_zero, Nat.le_refl, reduceIte, 
    ne_eq, not_false_eq_true, and_self, true_and, and_true, reduceCtorEq, cond_true, cond_false, c_spec_l02Token, e1, e2, e3, e4, l2, h6, beq_self_eq_true]
        rfl
      | false =>
        cases h7 : (b :: c :: r) == [38, 38] with
        | true =>
          simp (config := {contextual := true, implicitDefEqProofs := false, maxSteps := 1000000}) only [
    ↓PR0, ↓PR1, ↓PR2, PO0, PO1, PO2, PO3, result, resOf, allSome, number, upd, List.map, Option.bind_some, Nat.reduceAdd, Nat.reduceSub, Nat.reduceLeDiff, Nat.reduceLT, Nat.reduceEqDiff, Nat.zero_add, Nat.add_zero, Nat.le_refl, reduceIte, 
    ne_eq, not_false_eq_true, and_self, true_and, and_true, reduceCtorEq, cond_true, cond_false, c_spec_l02Token, e1, e2, e3, e4, l2, h6, h7, beq_self_eq_true]
          rfl
        | false =>
          simp (config := {contextual := true, implicitDefEqProofs := false, maxSteps := 1000000}) only [
    ↓PR0, ↓PR1, ↓PR2, PO0, PO1, PO2, PO3, result, resOf, allSome, number, upd, List.map, Option.bind_some, Nat.reduceAdd, Nat.reduceSub, Nat.reduceLeDiff, Nat.reduceLT, Nat.reduceEqDiff, Nat.zero_add, Nat.add_zero, Nat.le_refl, reduceIte, 
    ne_eq, not_false_eq_true, and_self, true_and, and_true, reduceCtorEq, cond_true, cond_false, c_spec_l02Token, e1, e2, e3, e4, l2, h6, h7, beq_self_eq_true]
          rfl
  · have e : tokB k t = false := by simp only [tokB, h1, h2, h3, h4, h5, if_false]
    have e1 : (k == 1) = false := by simpa using h1
    have e2 : (k == 2) = false := by simpa using h2
    have e3 : (k == 3) = false := by simpa using h3
    have e4 : (k == 4) = false := by simpa using h4
    have e5 : (k == 5) = false := by simpa using h5
    refine ⟨σ, ?_, Fr.refl _ _⟩
    rw [e, EE, Ex_run C_spec_l02Token rfl]
    simp (config := {contextual := true, implicitDefEqProofs := false, maxSteps := 1000000}) only [
    ↓PR0, ↓PR1, ↓PR2, PO0, PO1, PO2, PO3, idxV_str, result, resOf, allSome, number, upd, List.map, Option.bind_some, Nat.reduceAdd, Nat.reduceSub, Nat.reduceLeDiff, Nat.reduceLT, Nat.reduceEqDiff, Nat.zero_add, Nat.add_zero, Nat.le_refl, 
    reduceIte, ne_eq, not_false_eq_true, and_self, true_and, and_true, reduceCtorEq, cond_true, cond_false, c_spec_l02Token, e1, e2, e3, e4, e5]
theorem l02TokenText_eq (k p : Int) (t : List UInt8) (ht : t.length ≤ 1048576) (σ : Store) : ∃ σ', EE X f_spec_l02TokenText [.agg [int k, int p, .str t]] σ = some (.str (tokT k t), σ') ∧ Pre σ σ' := by
  by_cases h4 : k = 4
  · subst h4
    obtain ⟨σ', q1, q2⟩ := l02Quote_eq (X := X) t ht σ
    refine ⟨σ', ?_, q2⟩
    have e : tokT 4 t = quoteM t := rfl
    rw [e, EE, Ex_run C_spec_l02TokenText rfl]
    simp (config := {contextual := true, implicitDefEqProofs := false, maxSteps := 1000000}) only [
    ↓PR0, ↓PR1, ↓PR2, PO0, PO1, PO2, PO3, idxV_str, result, resOf, allSome, number, upd, List.map, Option.bind_some, Nat.reduceAdd, Nat.reduceSub, Nat.reduceLeDiff, Nat.reduceLT, Nat.reduceEqDiff, Nat.zero_add, Nat.add_zero, Nat.le_refl, 
    reduceIte, ne_eq, not_false_eq_true, and_self, true_and, and_true, reduceCtorEq, cond_true, cond_false, c_spec_l02TokenText, q1, beq_self_eq_true]
  · have e4 : (k == 4) = false := by simpa using h4
    refine ⟨σ, ?_, Fr.refl _ _⟩
    have e : tokT k t = t := by simp only [tokT, h4, if_false]
    rw [e, EE, Ex_run C_spec_l02TokenText rfl]
    simp (config := {contextual := true, implicitDefEqProofs := false, maxSteps := 1000000}) only [
    ↓PR0, ↓PR1, ↓PR2, PO0, PO1, PO2, PO3, idxV_str, result, resOf, allSome, number, upd, List.map, Option.bind_some, Nat.reduceAdd, Nat.reduceSub, Nat.reduceLeDiff, Nat.reduceLT, Nat.reduceEqDiff, Nat.zero_add, Nat.add_zero, Nat.le_refl, 
    reduceIte, ne_eq, not_false_eq_true, and_self, true_and, and_true, reduceCtorEq, cond_true, cond_false, c_spec_l02TokenText, e4]
theorem specTokenText_eq (k p : Int) (t : List UInt8) (ht : t.length ≤ 1048576) (σ : Store) : ∃ σ', EE X f_spec_TokenText [.agg [int k, int p, .str t]] σ = some (.tup [.str (if tokB k t = true then tokT k t else []), int (if tokB k t = true then 0 else 1)], σ') ∧ Pre σ σ' := by
  obtain ⟨σ1, a1, a2⟩ := l02Token_eq (X := X) k p t ht σ
  cases hb : tokB k t with
  | false =>
    rw [hb] at a1
    refine ⟨σ1, ?_, a2⟩
    rw [EE, Ex_run C_spec_TokenText rfl]
    simp (config := {contextual := true, implicitDefEqProofs := false, maxSteps := 1000000}) only [
    ↓PR0, ↓PR1, ↓PR2, PO0, PO1, PO2, PO3, idxV_str, result, resOf, allSome, number, upd, List.map, Option.bind_some, Nat.reduceAdd, Nat.reduceSub, Nat.reduceLeDiff, Nat.reduceLT, Nat.reduceEqDiff, Nat.zero_add, Nat.add_zero, Nat.le_refl, 
    reduceIte, ne_eq, not_false_eq_true, and_self, true_and, and_true, reduceCtorEq, cond_true, cond_false, c_spec_TokenText, a1, Bool.not_false]
  | true =>
    rw [hb] at a1
    obtain ⟨σ2, b1, b2⟩ := l02TokenText_eq (X := X) k p t ht σ1
    refine ⟨σ2, ?_, a2.pre b2⟩
    rw [EE, Ex_run C_spec_TokenText rfl]
    simp (config := {contextual := true, implicitDefEqProofs := false, maxSteps := 1000000}) only [
    ↓PR0, ↓PR1, ↓PR2, PO0, PO1, PO2, PO3, idxV_str, result, resOf, allSome, number, upd, List.map, Option.bind_some, Nat.reduceAdd, Nat.reduceSub, Nat.reduceLeDiff, Nat.reduceLT, Nat.reduceEqDiff, Nat.zero_add, Nat.add_zero, Nat.le_refl, 
    reduceIte, ne_eq, not_false_eq_true, and_self, true_and, and_true, reduceCtorEq, cond_true, cond_false, c_spec_TokenText, a1, b1, Bool.not_true]
set_option maxHeartbeats 1000000 in
theorem implTok_eq (hX : LibX X) (k p : Int) (t : List UInt8) (ht : t.length ≤ 1048576) (σ : Store) : ∃ s σ', EE X f_impl_tokenText [.agg [int k, int p, .str t]] σ = some (.tup [.str s, .bool (tokB k t)], σ') ∧ (tokB k t = true → s = tokT k t) ∧ Pre σ σ' := by
  have htl : LenOk t.length := by unfold LenOk; omega
  by_cases h1 : k = 1
  · subst h1
    obtain ⟨σ', w1, w2⟩ := identOK_eq (X := X) t σ htl
    have e : tokB 1 t = identM t := rfl
    refine ⟨t, σ', ?_, fun _ => rfl, w2⟩
    rw [e, EE, Ex_run C_impl_tokenText rfl]
    simp (config := {contextual := true, implicitDefEqProofs := false, maxSteps := 1000000}) only [
    ↓PR0, ↓PR1, ↓PR2, PO0, PO1, PO2, PO3, idxV_str, result, resOf, allSome, number, upd, List.map, Option.bind_some, Nat.reduceAdd, Nat.reduceSub, Nat.reduceLeDiff, Nat.reduceLT, Nat.reduceEqDiff, Nat.zero_add, Nat.add_zero, Nat.le_refl, 
    reduceIte, ne_eq, not_false_eq_true, and_self, true_and, and_true, reduceCtorEq, cond_true, cond_false, c_impl_tokenText, w1, beq_self_eq_true]
  by_cases h2 : k = 2
  · subst h2
    have w1 := implWordOK_eq (X := X) t σ
    have e : tokB 2 t = wordOK t := rfl
    have e1 : ((2 : Int) == 1) = false := rfl
    refine ⟨t, σ ++ [⟨srcWords.map (fun t => [.str t]), 1, 0, .own⟩], ?_, fun _ => rfl, Pre.app _ _⟩
    rw [e, EE, Ex_run C_impl_tokenText rfl]
    simp (config := {contextual := true, implicitDefEqProofs := false, maxSteps := 1000000}) only [
    ↓PR0, ↓PR1, ↓PR2, PO0, PO1, PO2, PO3, idxV_str, result, resOf, allSome, number, upd, List.map, Option.bind_some, Nat.reduceAdd, Nat.reduceSub, Nat.reduceLeDiff, Nat.reduceLT, Nat.reduceEqDiff, Nat.zero_add, Nat.add_zero, Nat.le_refl, 
    reduceIte, ne_eq, not_false_eq_true, and_self, true_and, and_true, reduceCtorEq, cond_true, cond_false, c_impl_tokenText, e1, w1, beq_self_eq_true]
  by_cases h3 : k = 3
  · subst h3
    have w1 := intOK_eq hX t ht σ
    have e : tokB 3 t = intM t := rfl
    have e1 : ((3 : Int) == 1) = false := rfl
    have e2 : ((3 : Int) == 2) = false := rfl
    refine ⟨t, σ, ?_, fun _ => rfl, Fr.refl _ _⟩
    rw [e, EE, Ex_run C_impl_tokenText rfl]
    simp (config := {contextual := true, implicitDefEqProofs := false, maxSteps := 1000000}) only [
    ↓PR0, ↓PR1, ↓PR2, PO0, PO1, PO2, PO3, idxV_str, result, resOf, allSome, number, upd, List.map, Option.bind_some, Nat.reduceAdd, Nat.reduceSub, Nat.reduceLeDiff, Nat.reduceLT, Nat.reduceEqDiff, Nat.zero_add, Nat.add_zero, Nat.le_refl, 
    reduceIte, ne_eq, not_false_eq_true, and_self, true_and, and_true, reduceCtorEq, cond_true, cond_false, c_impl_tokenText, e1, e2, w1, beq_self_eq_true]
  by_cases h4 : k = 4
  · subst h4
    obtain ⟨σ', q1, q2⟩ := quoteText_eq (X := X) t ht σ
    have hp := wordText_eq (X := X) t σ' htl
    have e : tokB 4 t = plainM t := rfl
    have e1 : ((4 : Int) == 1) = false := rfl
    have e2 : ((4 : Int) == 2) = false := rfl
    have e3 : ((4 : Int) == 3) = false := rfl
    refine ⟨quoteM t, σ', ?_, fun _ => rfl, q2⟩
    rw [e, EE, Ex_run C_impl_tokenText rfl]
    simp (config := {contextual := true, implicitDefEqProofs := false, maxSteps := 1000000}) only [
    ↓PR0, ↓PR1, ↓PR2, PO0, PO1, PO2, PO3, idxV_str, result, resOf, allSome, number, upd, List.map, Option.bind_some, Nat.reduceAdd, Nat.reduceSub, Nat.reduceLeDiff, Nat.reduceLT, Nat.reduceEqDiff, Nat.zero_add, Nat.add_zero, Nat.le_refl, 
    reduceIte, ne_eq, not_false_eq_true, and_self, true_and, and_true, reduceCtorEq, cond_true, cond_false, c_impl_tokenText, e1, e2, e3, q1, hp, beq_self_eq_true]
  by_cases h5 : k = 5
  · subst h5
    obtain ⟨σ', s1, s2⟩ := isSign_eq hX t ht σ
    have e : tokB 5 t = signM t := rfl
    have e1 : ((5 : Int) == 1) = false := rfl
    have e2 : ((5 : Int) == 2) = false := rfl
    have e3 : ((5 : Int) == 3) = false := rfl
    have e4 : ((5 : Int) == 4) = false := rfl
    refine ⟨t, σ', ?_, fun _ => rfl, s2⟩
    rw [e, EE, Ex_run C_impl_tokenText rfl]
    simp (config := {contextual := true, implicitDefEqProofs := false, maxSteps := 1000000}) only [
    ↓PR0, ↓PR1, ↓PR2, PO0, PO1, PO2, PO3, idxV_str, result, resOf, allSome, number, upd, List.map, Option.bind_some, Nat.reduceAdd, Nat.reduceSub, Nat.reduceLeDiff, Nat.reduceLT, Nat.reduceEqDiff, Nat.zero_add, Nat.add_zero, Nat.le_refl, 
    reduceIte, ne_eq, not_false_eq_true, and_self, true_and, and_true, reduceCtorEq, cond_true, cond_false, c_impl_tokenText, e1, e2, e3, e4, s1, beq_self_eq_true]
  · have e : tokB k t = false := by simp only [tokB, h1, h2, h3, h4, h5, if_false]
    have e1 : (k == 1) = false := by simpa using h1
    have e2 : (k == 2) = false := by simpa using h2
    have e3 : (k == 3) = false := by simpa using h3
    have e4 : (k == 4) = false := by simpa using h4
    have e5 : (k == 5) = false := by simpa using h5
    refine ⟨[], σ, ?_, (fun h => by rw [e] at h; cases h), Fr.refl _ _⟩
    rw [e, EE, Ex_run C_impl_tokenText rfl]
    simp (config := {contextual := true, implicitDefEqProofs := false, maxSteps := 1000000}) only [
    ↓PR0, ↓PR1, ↓PR2, PO0, PO1, PO2, PO3, idxV_str, result, resOf, allSome, number, upd, List.map, Option.bind_some, Nat.reduceAdd, Nat.reduceSub, Nat.reduceLeDiff, Nat.reduceLT, Nat.reduceEqDiff, Nat.zero_add, Nat.add_zero, Nat.le_refl, 
    reduceIte, ne_eq, not_false_eq_true, and_self, true_and, and_true, reduceCtorEq, cond_true, cond_false, c_impl_tokenText, e1, e2, e3, e4, e5]
theorem implTokenText_eq (hX : LibX X) (k p : Int) (t : List UInt8) (ht : t.length ≤ 1048576) (σ : Store) : ∃ σ', EE X f_impl_TokenText [.agg [int k, int p, .str t]] σ = some (.tup [.str (if tokB k t = true then tokT k t else []), int (if tokB k t = true then 0 else 1)], σ') ∧ Pre σ σ' := by
  obtain ⟨s, σ1, a1, a3, a2⟩ := implTok_eq hX k p t ht σ
  cases hb : tokB k t with
  | false =>
    rw [hb] at a1
    refine ⟨σ1, ?_, a2⟩
    rw [EE, Ex_run C_impl_TokenText rfl]
    simp (config := {contextual := true, implicitDefEqProofs := false, maxSteps := 1000000}) only [
    ↓PR0, ↓PR1, ↓PR2, PO0, PO1, PO2, PO3, idxV_str, result, resOf, allSome, number, upd, List.map, Option.bind_some, Nat.reduceAdd, Nat.reduceSub, Nat.reduceLeDiff, Nat.reduceLT, Nat.reduceEqDiff, Nat.zero_add, Nat.add_zero, Nat.le_refl, 
    reduceIte, ne_eq, not_false_eq_true, and_self, true_and, and_true, reduceCtorEq, cond_true, cond_false, c_impl_TokenText, a1, Bool.not_false]
  | true =>
    rw [hb] at a1
    refine ⟨σ1, ?_, a2⟩
    rw [← a3 hb, EE, Ex_run C_impl_TokenText rfl]
    simp (config := {contextual := true, implicitDefEqProofs := false, maxSteps := 1000000}) only [
    ↓PR0, ↓PR1, ↓PR2, PO0, PO1, PO2, PO3, idxV_str, result, resOf, allSome, number, upd, List.map, Option.bind_some, Nat.reduceAdd, Nat.reduceSub, Nat.reduceLeDiff, Nat.reduceLT, Nat.reduceEqDiff, Nat.zero_add, Nat.add_zero, Nat.le_refl, 
    reduceIte, ne_eq, not_false_eq_true, and_self, true_and, and_true, reduceCtorEq, cond_true, cond_false, c_impl_TokenText, a1, Bool.not_true]
end Go.X
