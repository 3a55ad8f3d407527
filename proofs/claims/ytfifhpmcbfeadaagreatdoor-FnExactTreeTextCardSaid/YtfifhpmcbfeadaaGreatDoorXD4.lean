/- Tokens: numbers of the program, prefixes, the harness. -/
import Derived.Test.YtfifhpmcbfeadaaGreatDoorXD3
import Derived.Test.YtfifhpmcbfeadaaGreatDoorXS1
set_option linter.unusedVariables false
set_option linter.unusedSimpArgs false
set_option maxRecDepth 20000
namespace Go.X
open Go Go.Lib
variable {X : Call}

theorem hasPrefix1_eq (s p : List UInt8) (hs : LenOk s.length) (σ : Store) : EE X f_internal_stringslite_HasPrefix [.str s, .str p] σ = some (.bool (hasP s p), σ) := by
  rw [EE, Ex_run C_internal_stringslite_HasPrefix rfl]
  by_cases hle : p.length ≤ s.length
  · have h1 : (p.length : Int) ≤ (s.length : Int) := by omega
    have hs1 : (0 : Int) ≤ ((0 : Nat) : Int) ∧ ((0 : Nat) : Int) ≤ (p.length : Int) := by omega
    have hs2 : List.take (((p.length : Nat) : Int).toNat - ((0 : Nat) : Int).toNat) (List.drop ((0 : Nat) : Int).toNat s) = s.take p.length := by simp
    simp (config := {contextual := true, implicitDefEqProofs := false, maxSteps := 1000000}) only [
    ↓PR0, ↓PR1, ↓PR2, PO0, PO1, PO2, PO3, idxV_str, result, resOf, allSome, number, upd, List.map, Option.bind_some, Nat.reduceAdd, Nat.reduceSub, Nat.reduceLeDiff, Nat.reduceLT, Nat.reduceEqDiff, Nat.zero_add, Nat.add_zero, Nat.le_refl, 
    reduceIte, ne_eq, not_false_eq_true, and_self, true_and, and_true, reduceCtorEq, cond_true, cond_false, c_internal_stringslite_HasPrefix, h1, decide_true, hs1, hs2]
    simp only [hasP, hle, decide_true, Bool.true_and]
  · have h1 : ¬ (p.length : Int) ≤ (s.length : Int) := by omega
    simp (config := {contextual := true, implicitDefEqProofs := false, maxSteps := 1000000}) only [
    ↓PR0, ↓PR1, ↓PR2, PO0, PO1, PO2, PO3, idxV_str, result, resOf, allSome, number, upd, List.map, Option.bind_some, Nat.reduceAdd, Nat.reduceSub, Nat.reduceLeDiff, Nat.reduceLT, Nat.reduceEqDiff, Nat.zero_add, Nat.add_zero, Nat.le_refl, 
    reduceIte, ne_eq, not_false_eq_true, and_self, true_and, and_true, reduceCtorEq, cond_true, cond_false, c_internal_stringslite_HasPrefix, h1, decide_false]
    simp only [hasP, hle, decide_false, Bool.false_and]
theorem hasPrefix_eq (s p : List UInt8) (hs : LenOk s.length) (σ : Store) : EE X f_strings_HasPrefix [.str s, .str p] σ = some (.bool (hasP s p), σ) := by
  have hin := hasPrefix1_eq (X := X) s p hs σ
  rw [EE, Ex_run C_strings_HasPrefix rfl]
  simp (config := {contextual := true, implicitDefEqProofs := false, maxSteps := 1000000}) only [
    ↓PR0, ↓PR1, ↓PR2, PO0, PO1, PO2, PO3, idxV_str, result, resOf, allSome, number, upd, List.map, Option.bind_some, Nat.reduceAdd, Nat.reduceSub, Nat.reduceLeDiff, Nat.reduceLT, Nat.reduceEqDiff, Nat.zero_add, Nat.add_zero, Nat.le_refl, 
    reduceIte, ne_eq, not_false_eq_true, and_self, true_and, and_true, reduceCtorEq, cond_true, cond_false, c_strings_HasPrefix, hin]
/-! ### The harness -/
structure TokM where
  kind : Int
  place : Int
  text : List UInt8
def TokM.size (s : TokM) : Nat := s.text.length
def RTok : Rp TokM := fun _ m cs => cs = [int m.kind, int m.place, .str m.text] ∧ I64 m.kind ∧ I64 m.place ∧ LenOk m.text.length
theorem RTok.mono : Mono RTok := fun _ _ _ _ h => h
theorem RTok.sized : Sized RTok 3 := fun _ _ _ h => by rw [h.1]; rfl
end Go.X
