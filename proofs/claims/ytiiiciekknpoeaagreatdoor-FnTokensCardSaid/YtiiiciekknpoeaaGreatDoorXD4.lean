/- Tokens: numbers of the program, prefixes, the harness. -/
import Derived.Test.YtiiiciekknpoeaaGreatDoorXD3
import Derived.Test.YtiiiciekknpoeaaGreatDoorXS1
set_option linter.unusedVariables false
set_option linter.unusedSimpArgs false
set_option maxRecDepth 20000
namespace Go.X
open Go Go.Lib
variable {X : Call}

theorem hasPrefix1_eq (s p : List UInt8) (hs : LenOk s.length) (σ : Store) : EE X f_internal_stringslite_HasPrefix [.str s, .str p] σ = some (.bool (hasP s p), σ) := by
  rw [EE, Ex_run C_internal_stringslite_HasPrefix rfl]
  by_cases hle : p.length ≤ s.length
  · have h1 : (p.length : Int) ≤ (s.length : Int) := by omega
    have hs1 : (0 : Int) ≤ ((0 : Nat) : Int) ∧ ((0 : Nat) : Int) ≤ (p.length : Int) := by omega
    have hs2 : List.take (((p.length : Nat) : Int).toNat - ((0 : Nat) : Int).toNat) (List.drop ((0 : Nat) : Int).toNat s) = s.take p.length := by simp
    simp (config := {contextual := true, implicitDefEqProofs := false, maxSteps := 1000000}) only [
    ↓PR0, ↓PR1, ↓PR2, PO0, PO1, PO2, PO3, idxV_str, result, resOf, allSome, number, upd, List.map, Option.bind_some, Nat.reduceAdd, Nat.reduceSub, Nat.reduceLeDiff, Nat.reduceLT, Nat.reduceEqDiff, Nat.zero_add, Nat.add_zero, Nat.le_refl, 
    reduceIte, ne_eq, not_false_eq_true, and_self, true_and, and_true, reduceCtorEq, cond_true, cond_false, c_internal_stringslite_HasPrefix, h1, decide_true, hs1, hs2]
    simp only [hasP, hle, decide_true, Bool.true_and]
  · have h1 : ¬ (p.length : Int) ≤ (s.length : Int) := by omega
    simp (config := {contextual := true, implicitDefEqProofs := false, maxSteps := 1000000}) only [
    ↓PR0, ↓PR1, ↓PR2, PO0, PO1, PO2, PO3, idxV_str, result, resOf, allSome, number, upd, List.map, Option.bind_some, Nat.reduceAdd, Nat.reduceSub, Nat.reduceLeDiff, Nat.reduceLT, Nat.reduceEqDiff, Nat.zero_add, Nat.add_zero, Nat.le_refl, 
    reduceIte, ne_eq, not_false_eq_true, and_self, true_and, and_true, reduceCtorEq, cond_true, cond_false, c_internal_stringslite_HasPrefix, h1, decide_false]
    simp only [hasP, hle, decide_false, Bool.false_and]
theorem hasPrefix_eq (s p : List UInt8) (hs : LenOk s.length) (σ : Store) : EE X f_strings_HasPrefix [.str s, .str p] σ = some (.bool (hasP s p), σ) := by
  have hin := hasPrefix1_eq (X := X) s p hs σ
  rw [EE, Ex_run C_strings_HasPrefix rfl]
  simp (config := {contextual := true, implicitDefEqProofs := false, maxSteps := 1000000}) only [
    ↓PR0, ↓PR1, ↓PR2, PO0, PO1, PO2, PO3, idxV_str, result, resOf, allSome, number, upd, List.map, Option.bind_some, Nat.reduceAdd, Nat.reduceSub, Nat.reduceLeDiff, Nat.reduceLT, Nat.reduceEqDiff, Nat.zero_add, Nat.add_zero, Nat.le_refl, 
    reduceIte, ne_eq, not_false_eq_true, and_self, true_and, and_true, reduceCtorEq, cond_true, cond_false, c_strings_HasPrefix, hin]
theorem trim_eq (t : List UInt8) (ht : LenOk t.length) (σ : Store) : EE X f_strings_TrimPrefix [.str t, .str [45]] σ = some (.str (tailN t), σ) := by
  have hp := hasPrefix1_eq (X := X) t [45] ht σ
  have hin : EE X f_internal_stringslite_TrimPrefix [.str t, .str [45]] σ = some (.str (tailN t), σ) := by
    rw [EE, Ex_run C_internal_stringslite_TrimPrefix rfl]
    cases t with
    | nil =>
      have h0 : hasP [] [45] = false := rfl
      rw [h0] at hp
      simp (config := {contextual := true, implicitDefEqProofs := false, maxSteps := 1000000}) only [
    ↓PR0, ↓PR1, ↓PR2, PO0, PO1, PO2, PO3, idxV_str, result, resOf, allSome, number, upd, List.map, Option.bind_some, Nat.reduceAdd, Nat.reduceSub, Nat.reduceLeDiff, Nat.reduceLT, Nat.reduceEqDiff, Nat.zero_add, Nat.add_zero, Nat.le_refl, 
    reduceIte, ne_eq, not_false_eq_true, and_self, true_and, and_true, reduceCtorEq, cond_true, cond_false, c_internal_stringslite_TrimPrefix, hp]
      rfl
    | cons c r =>
      have h0 : hasP (c :: r) [45] = (c == 45) := by simp [hasP]
      rw [h0] at hp
      cases hc : c == 45 with
      | true =>
        rw [hc] at hp
        have hs1 : (0 : Int) ≤ (((([45] : List UInt8).length : Nat)) : Int) ∧ (((([45] : List UInt8).length : Nat)) : Int) ≤ (((c :: r).length : Nat) : Int) ∧ (((c :: r).length : Nat) : Int) ≤ (((c :: r).length : Nat) : Int) := by simp only [List.length_cons, List.length_nil]; omega
        have hs2 : List.take ((((c :: r).length : Nat) : Int).toNat - (((([45] : List UInt8).length : Nat)) : Int).toNat) (List.drop (((([45] : List UInt8).length : Nat)) : Int).toNat (c :: r)) = r := by simp
        simp only [List.length_cons, List.length_nil] at hs1 hs2
        simp (config := {contextual := true, implicitDefEqProofs := false, maxSteps := 1000000}) only [
    ↓PR0, ↓PR1, ↓PR2, PO0, PO1, PO2, PO3, idxV_str, result, resOf, allSome, number, upd, List.map, Option.bind_some, Nat.reduceAdd, Nat.reduceSub, Nat.reduceLeDiff, Nat.reduceLT, Nat.reduceEqDiff, Nat.zero_add, Nat.add_zero, Nat.le_refl, 
    reduceIte, ne_eq, not_false_eq_true, and_self, true_and, and_true, reduceCtorEq, cond_true, cond_false, c_internal_stringslite_TrimPrefix, hp, hs1, hs2]
        have : c = 45 := by simpa using hc
        subst this
        rfl
      | false =>
        rw [hc] at hp
        simp (config := {contextual := true, implicitDefEqProofs := false, maxSteps := 1000000}) only [
    ↓PR0, ↓PR1, ↓PR2, PO0, PO1, PO2, PO3, idxV_str, result, resOf, allSome, number, upd, List.map, Option.bind_some, Nat.reduceAdd, Nat.reduceSub, Nat.reduceLeDiff, Nat.reduceLT, Nat.reduceEqDiff, Nat.zero_add, Nat.add_zero, Nat.le_refl, 
    reduceIte, ne_eq, not_false_eq_true, and_self, true_and, and_true, reduceCtorEq, cond_true, cond_false, c_internal_stringslite_TrimPrefix, hp]
        have : c ≠ 45 := by simpa using hc
        simp [tailN, this]
  rw [EE, Ex_run C_strings_TrimPrefix rfl]
  simp (config := {contextual := true, implicitDefEqProofs := false, maxSteps := 1000000}) only [
    ↓PR0, ↓PR1, ↓PR2, PO0, PO1, PO2, PO3, idxV_str, result, resOf, allSome, number, upd, List.map, Option.bind_some, Nat.reduceAdd, Nat.reduceSub, Nat.reduceLeDiff, Nat.reduceLT, Nat.reduceEqDiff, Nat.zero_add, Nat.add_zero, Nat.le_refl, 
    reduceIte, ne_eq, not_false_eq_true, and_self, true_and, and_true, reduceCtorEq, cond_true, cond_false, c_strings_TrimPrefix, hin]
theorem number_eq (hX : LibX X) (t : List UInt8) (ht : t.length ≤ 1048576) (σ : Store) : ∃ n, EE X f_impl_number [.str t] σ = some (.tup [int n, .bool (numM t).isSome], σ) ∧ ∀ v, numM t = some v → n = v := by
  have ht2 : t.length ≤ 281474976710656 := by omega
  have htr := trim_eq (X := X) t (by unfold LenOk; omega) σ
  by_cases hv : ∃ v, atoiAll t = .ok v
  · obtain ⟨v, ha⟩ := hv
    have h1 := hX.ok t v σ ht2 ha
    refine ⟨v, ?_, fun w hw => by have := (numM_some hw).1; rw [ha] at this; injection this⟩
    have hi := hX.itoa v σ (atoi_i64 ha)
    rw [EE, Ex_run C_impl_number rfl]
    by_cases h18 : ((tailN t).length : Int) ≤ 18
    · cases he : itoa v == t with
      | true =>
        have hn : numM t = some v := numM_of (by simpa using he) (by omega)
        simp (config := {contextual := true, implicitDefEqProofs := false, maxSteps := 1000000}) only [
    ↓PR0, ↓PR1, ↓PR2, PO0, PO1, PO2, PO3, idxV_str, result, resOf, allSome, number, upd, List.map, Option.bind_some, Nat.reduceAdd, Nat.reduceSub, Nat.reduceLeDiff, Nat.reduceLT, Nat.reduceEqDiff, Nat.zero_add, Nat.add_zero, Nat.le_refl, 
    reduceIte, ne_eq, not_false_eq_true, and_self, true_and, and_true, reduceCtorEq, cond_true, cond_false, c_impl_number, nilOf, h1, htr, h18, decide_true, hi, he, hn, Option.isSome_some]
      | false =>
        have hn : numM t = none := by
          cases hn : numM t with
          | none => rfl
          | some w =>
            have h2 := numM_some hn
            rw [ha] at h2
            have : v = w := by injection h2.1
            rw [this, h2.2.1] at he
            simp at he
        simp (config := {contextual := true, implicitDefEqProofs := false, maxSteps := 1000000}) only [
    ↓PR0, ↓PR1, ↓PR2, PO0, PO1, PO2, PO3, idxV_str, result, resOf, allSome, number, upd, List.map, Option.bind_some, Nat.reduceAdd, Nat.reduceSub, Nat.reduceLeDiff, Nat.reduceLT, Nat.reduceEqDiff, Nat.zero_add, Nat.add_zero, Nat.le_refl, 
    reduceIte, ne_eq, not_false_eq_true, and_self, true_and, and_true, reduceCtorEq, cond_true, cond_false, c_impl_number, nilOf, h1, htr, h18, decide_true, hi, he, hn, Option.isSome_none]
    · have hn : numM t = none := by
        cases hn : numM t with
        | none => rfl
        | some w => have h2 := (numM_some hn).2.2.1; omega
      simp (config := {contextual := true, implicitDefEqProofs := false, maxSteps := 1000000}) only [
    ↓PR0, ↓PR1, ↓PR2, PO0, PO1, PO2, PO3, idxV_str, result, resOf, allSome, number, upd, List.map, Option.bind_some, Nat.reduceAdd, Nat.reduceSub, Nat.reduceLeDiff, Nat.reduceLT, Nat.reduceEqDiff, Nat.zero_add, Nat.add_zero, Nat.le_refl, 
    reduceIte, ne_eq, not_false_eq_true, and_self, true_and, and_true, reduceCtorEq, cond_true, cond_false, c_impl_number, nilOf, h1, htr, h18, decide_false, hn, Option.isSome_none]
  · have hno : ∀ v, atoiAll t ≠ .ok v := fun v h => hv ⟨v, h⟩
    obtain ⟨n, ty, h1⟩ := hX.bad t σ ht2 hno
    have hn : numM t = none := by
      cases hn : numM t with
      | none => rfl
      | some w => exact (hno w (numM_some hn).1).elim
    refine ⟨n, ?_, fun w hw => by rw [hn] at hw; cases hw⟩
    rw [EE, Ex_run C_impl_number rfl]
    simp (config := {contextual := true, implicitDefEqProofs := false, maxSteps := 1000000}) only [
    ↓PR0, ↓PR1, ↓PR2, PO0, PO1, PO2, PO3, idxV_str, result, resOf, allSome, number, upd, List.map, Option.bind_some, Nat.reduceAdd, Nat.reduceSub, Nat.reduceLeDiff, Nat.reduceLT, Nat.reduceEqDiff, Nat.zero_add, Nat.add_zero, Nat.le_refl, 
    reduceIte, ne_eq, not_false_eq_true, and_self, true_and, and_true, reduceCtorEq, cond_true, cond_false, c_impl_number, nilOf, h1, hn, Option.isSome_none]
theorem intOK_eq (hX : LibX X) (t : List UInt8) (ht : t.length ≤ 1048576) (σ : Store) : EE X f_impl_intOK [.str t] σ = some (.bool (intM t), σ) := by
  obtain ⟨n, h1, h2⟩ := number_eq hX t ht σ
  have hw := within_eq (X := X) n 0 2147483647 σ
  cases hn : numM t with
  | none =>
    rw [hn] at h1
    simp only [Option.isSome_none] at h1
    rw [EE, Ex_run C_impl_intOK rfl]
    simp (config := {contextual := true, implicitDefEqProofs := false, maxSteps := 1000000}) only [
    ↓PR0, ↓PR1, ↓PR2, PO0, PO1, PO2, PO3, idxV_str, result, resOf, allSome, number, upd, List.map, Option.bind_some, Nat.reduceAdd, Nat.reduceSub, Nat.reduceLeDiff, Nat.reduceLT, Nat.reduceEqDiff, Nat.zero_add, Nat.add_zero, Nat.le_refl, 
    reduceIte, ne_eq, not_false_eq_true, and_self, true_and, and_true, reduceCtorEq, cond_true, cond_false, c_impl_intOK, h1]
    simp only [intM, hn]
  | some v =>
    rw [hn] at h1
    simp only [Option.isSome_some] at h1
    obtain rfl := h2 v hn
    rw [EE, Ex_run C_impl_intOK rfl]
    simp (config := {contextual := true, implicitDefEqProofs := false, maxSteps := 1000000}) only [
    ↓PR0, ↓PR1, ↓PR2, PO0, PO1, PO2, PO3, idxV_str, result, resOf, allSome, number, upd, List.map, Option.bind_some, Nat.reduceAdd, Nat.reduceSub, Nat.reduceLeDiff, Nat.reduceLT, Nat.reduceEqDiff, Nat.zero_add, Nat.add_zero, Nat.le_refl, 
    reduceIte, ne_eq, not_false_eq_true, and_self, true_and, and_true, reduceCtorEq, cond_true, cond_false, c_impl_intOK, h1, hw]
    simp only [intM, hn]

/-! ### The harness -/
structure TokM where
  kind : Int
  place : Int
  text : List UInt8
def TokM.size (s : TokM) : Nat := s.text.length
def RTok : Rp TokM := fun _ m cs => cs = [int m.kind, int m.place, .str m.text] ∧ I64 m.kind ∧ I64 m.place ∧ LenOk m.text.length
theorem RTok.mono : Mono RTok := fun _ _ _ _ h => h
theorem RTok.sized : Sized RTok 3 := fun _ _ _ h => by rw [h.1]; rfl
end Go.X
