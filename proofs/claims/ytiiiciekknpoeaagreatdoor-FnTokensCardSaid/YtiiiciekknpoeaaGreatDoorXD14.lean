/- Reading tokens: the law of LexSource. -/
import Derived.Test.YtiiiciekknpoeaaGreatDoorXD13
set_option linter.unusedVariables false
set_option linter.unusedSimpArgs false
set_option maxRecDepth 20000
namespace Go.X
open Go Go.Lib
variable {X : Call}

def lexS (t : List UInt8) : LexOut := if 65536 < t.length then ([], 0, 2) else if 600 < t.length then ([], 0, 10) else lexGo t (t.length + 1) 0 []
theorem specLexSource_eq (t : List UInt8) (ht : t.length ≤ 1048576) (σ : Store) : ∃ a σ', EE X f_spec_LexSource [.str t] σ = some (.tup [a, int (lexS t).2.1, int (lexS t).2.2], σ') ∧ Pre σ σ' ∧ RSO (fun _ _ => RTok) 3 σ.length σ'.length σ' (lexS t).1 a ∧ (lexS t).1.length ≤ 300 := by
  by_cases h1 : 65536 < t.length
  · have h1' : (65536 : Int) < (t.length : Int) := by omega
    have e : lexS t = ([], 0, 2) := by simp only [lexS, h1, if_true]
    refine ⟨_, _, ?_, Pre.app σ [(⟨[], 3, 0, .own⟩ : Row)], by rw [e]; exact rso_new σ.length σ (Nat.le_refl _), by rw [e]; simp⟩
    rw [e, EE, Ex_run C_spec_LexSource rfl]
    simp (config := {contextual := true, implicitDefEqProofs := false, maxSteps := 1000000}) only [
    ↓PR0, ↓PR1, ↓PR2, PO0, PO1, PO2, PO3, idxV_str, result, resOf, allSome, number, upd, List.map, Option.bind_some, Nat.reduceAdd, Nat.reduceSub, Nat.reduceLeDiff, Nat.reduceLT, Nat.reduceEqDiff, Nat.zero_add, Nat.add_zero, Nat.le_refl, 
    reduceIte, ne_eq, not_false_eq_true, and_self, true_and, and_true, reduceCtorEq, cond_true, cond_false, c_spec_LexSource, h1', decide_true, List.replicate_zero]
  · have h1' : ¬ (65536 : Int) < (t.length : Int) := by omega
    by_cases h2 : 600 < t.length
    · have h2' : (600 : Int) < (t.length : Int) := by omega
      have e : lexS t = ([], 0, 10) := by simp only [lexS, h1, h2, if_true, if_false]
      refine ⟨_, _, ?_, Pre.app σ [(⟨[], 3, 0, .own⟩ : Row)], by rw [e]; exact rso_new σ.length σ (Nat.le_refl _), by rw [e]; simp⟩
      rw [e, EE, Ex_run C_spec_LexSource rfl]
      simp (config := {contextual := true, implicitDefEqProofs := false, maxSteps := 1000000}) only [
    ↓PR0, ↓PR1, ↓PR2, PO0, PO1, PO2, PO3, idxV_str, result, resOf, allSome, number, upd, List.map, Option.bind_some, Nat.reduceAdd, Nat.reduceSub, Nat.reduceLeDiff, Nat.reduceLT, Nat.reduceEqDiff, Nat.zero_add, Nat.add_zero, Nat.le_refl, 
    reduceIte, ne_eq, not_false_eq_true, and_self, true_and, and_true, reduceCtorEq, cond_true, cond_false, c_spec_LexSource, h1', h2', decide_true, decide_false, List.replicate_zero]
    · have h2' : ¬ (600 : Int) < (t.length : Int) := by omega
      have e : lexS t = lexGo t (t.length + 1) 0 [] := by simp only [lexS, h1, h2, if_false]
      rw [e]
      have hw : OwR σ.length (σ ++ [⟨[], 3, 0, .own⟩]) 3 (cK []) (.sl σ.length 0 0 0) := OwR.new σ (cK []) 3
      obtain ⟨σ', f1, f2⟩ := l02Lex_loop (X := X) (R := AV × Store) t (by omega) (t.length + 1) 0 [] _ _ (by omega) (by omega) (by simp) (by intro s hs; cases hs) (by simp) hw
      have hpre : Pre σ σ' := (Pre.app σ [(⟨[], 3, 0, .own⟩ : Row)]).trans f1 (fun x h1 h2 => by omega)
      simp only [Int.cast_ofNat_Int] at f2
      rcases f2 with ⟨g1, g2, g3, g4, a', pe, g5, g6⟩ | ⟨g1, s, g2, g3⟩
      · refine ⟨a', σ', ?_, hpre, ⟨g5.rs (cK_all g4 σ'), g5.ka (Nat.le_refl _) g5.lt⟩, g3⟩
        have hlex : EE X f_spec_l02Lex [.str t] σ = some (.tup [a', int 0, int 0], σ') := by
          rw [EE, Ex_run C_spec_l02Lex rfl]
          simp (config := {contextual := true, implicitDefEqProofs := false, maxSteps := 1000000}) only [
    ↓PR0, ↓PR1, ↓PR2, PO0, PO1, PO2, PO3, idxV_str, result, resOf, allSome, number, upd, List.map, Option.bind_some, Nat.reduceAdd, Nat.reduceSub, Nat.reduceLeDiff, Nat.reduceLT, Nat.reduceEqDiff, Nat.zero_add, Nat.add_zero, Nat.le_refl, 
    reduceIte, ne_eq, not_false_eq_true, and_self, true_and, and_true, reduceCtorEq, cond_true, cond_false, c_spec_l02Lex, List.replicate_zero, g6]
        rw [g1, g2, EE, Ex_run C_spec_LexSource rfl]
        simp (config := {contextual := true, implicitDefEqProofs := false, maxSteps := 1000000}) only [
    ↓PR0, ↓PR1, ↓PR2, PO0, PO1, PO2, PO3, idxV_str, result, resOf, allSome, number, upd, List.map, Option.bind_some, Nat.reduceAdd, Nat.reduceSub, Nat.reduceLeDiff, Nat.reduceLT, Nat.reduceEqDiff, Nat.zero_add, Nat.add_zero, Nat.le_refl, 
    reduceIte, ne_eq, not_false_eq_true, and_self, true_and, and_true, reduceCtorEq, cond_true, cond_false, c_spec_LexSource, h1', h2', decide_false, hlex]
      · refine ⟨s, σ', ?_, hpre, by rw [g1]; exact g2.wide (fun _ _ _ _ _ _ _ _ _ h => h) (by omega) (Nat.le_refl _), by rw [g1]; simp⟩
        have hlex : EE X f_spec_l02Lex [.str t] σ = some (.tup [s, int (lexGo t (t.length + 1) 0 []).2.1, int (lexGo t (t.length + 1) 0 []).2.2], σ') := by
          rw [EE, Ex_run C_spec_l02Lex rfl]
          simp (config := {contextual := true, implicitDefEqProofs := false, maxSteps := 1000000}) only [
    ↓PR0, ↓PR1, ↓PR2, PO0, PO1, PO2, PO3, idxV_str, result, resOf, allSome, number, upd, List.map, Option.bind_some, Nat.reduceAdd, Nat.reduceSub, Nat.reduceLeDiff, Nat.reduceLT, Nat.reduceEqDiff, Nat.zero_add, Nat.add_zero, Nat.le_refl, 
    reduceIte, ne_eq, not_false_eq_true, and_self, true_and, and_true, reduceCtorEq, cond_true, cond_false, c_spec_l02Lex, List.replicate_zero, g3]
        rw [EE, Ex_run C_spec_LexSource rfl]
        simp (config := {contextual := true, implicitDefEqProofs := false, maxSteps := 1000000}) only [
    ↓PR0, ↓PR1, ↓PR2, PO0, PO1, PO2, PO3, idxV_str, result, resOf, allSome, number, upd, List.map, Option.bind_some, Nat.reduceAdd, Nat.reduceSub, Nat.reduceLeDiff, Nat.reduceLT, Nat.reduceEqDiff, Nat.zero_add, Nat.add_zero, Nat.le_refl, 
    reduceIte, ne_eq, not_false_eq_true, and_self, true_and, and_true, reduceCtorEq, cond_true, cond_false, c_spec_LexSource, h1', h2', decide_false, hlex]
theorem implLexSource_eq (hX : LibX X) (t : List UInt8) (ht : t.length ≤ 1048576) (σ : Store) : ∃ a σ', EE X f_impl_LexSource [.str t] σ = some (.tup [a, int (lexS t).2.1, int (lexS t).2.2], σ') ∧ Pre σ σ' ∧ RSO (fun _ _ => RTok) 3 σ.length σ'.length σ' (lexS t).1 a := by
  by_cases h1 : 65536 < t.length
  · have h1' : (65536 : Int) < (t.length : Int) := by omega
    have e : lexS t = ([], 0, 2) := by simp only [lexS, h1, if_true]
    refine ⟨.nilsl, σ, ?_, Fr.refl _ _, by rw [e]; exact rso_nil _ _ _⟩
    rw [e, EE, Ex_run C_impl_LexSource rfl]
    simp (config := {contextual := true, implicitDefEqProofs := false, maxSteps := 1000000}) only [
    ↓PR0, ↓PR1, ↓PR2, PO0, PO1, PO2, PO3, idxV_str, result, resOf, allSome, number, upd, List.map, Option.bind_some, Nat.reduceAdd, Nat.reduceSub, Nat.reduceLeDiff, Nat.reduceLT, Nat.reduceEqDiff, Nat.zero_add, Nat.add_zero, Nat.le_refl, 
    reduceIte, ne_eq, not_false_eq_true, and_self, true_and, and_true, reduceCtorEq, cond_true, cond_false, c_impl_LexSource, h1', decide_true]
  · have h1' : ¬ (65536 : Int) < (t.length : Int) := by omega
    by_cases h2 : 600 < t.length
    · have h2' : (600 : Int) < (t.length : Int) := by omega
      have e : lexS t = ([], 0, 10) := by simp only [lexS, h1, h2, if_true, if_false]
      refine ⟨.nilsl, σ, ?_, Fr.refl _ _, by rw [e]; exact rso_nil _ _ _⟩
      rw [e, EE, Ex_run C_impl_LexSource rfl]
      simp (config := {contextual := true, implicitDefEqProofs := false, maxSteps := 1000000}) only [
    ↓PR0, ↓PR1, ↓PR2, PO0, PO1, PO2, PO3, idxV_str, result, resOf, allSome, number, upd, List.map, Option.bind_some, Nat.reduceAdd, Nat.reduceSub, Nat.reduceLeDiff, Nat.reduceLT, Nat.reduceEqDiff, Nat.zero_add, Nat.add_zero, Nat.le_refl, 
    reduceIte, ne_eq, not_false_eq_true, and_self, true_and, and_true, reduceCtorEq, cond_true, cond_false, c_impl_LexSource, h1', h2', decide_true, decide_false]
    · have h2' : ¬ (600 : Int) < (t.length : Int) := by omega
      have e : lexS t = lexGo t (t.length + 1) 0 [] := by simp only [lexS, h1, h2, if_false]
      rw [e]
      have hw : OwR σ.length (σ ++ [⟨[], 3, 0, .own⟩]) 3 (cK []) (.sl σ.length 0 0 0) := OwR.new σ (cK []) 3
      have hr := fun σ => run_eq (X := X) blB f_impl_isBlank [] t 0 σ (fun b => isBlank_eq b σ) (by omega) (by omega)
      have hle := runN_le blB t
      obtain ⟨f', hf'⟩ : ∃ f', t.length + 1 = runN blB t + f' := ⟨t.length + 1 - runN blB t, by omega⟩
      have hsk := lexGo_skip t [] (runN blB t) f' 0 (by rw [List.drop_zero]; exact Nat.le_refl _)
      rw [← hf', Nat.zero_add] at hsk
      have hst := run_stop blB t 0
      simp only [List.drop_zero, Nat.zero_add, Int.cast_ofNat_Int] at hr hst
      obtain ⟨σ', f1, f2⟩ := lexSource_loop (R := AV × Store) hX t (by omega) f' (runN blB t) [] _ _ (by omega) (by omega) hst (by simp) (by intro s hs; cases hs) (by simp) hw
      have hpre : Pre σ σ' := (Pre.app σ [(⟨[], 3, 0, .own⟩ : Row)]).trans f1 (fun x h1 h2 => by omega)
      rw [← hsk] at f2
      rcases f2 with ⟨g1, g2, g3, g4, a', pe, g5, g6⟩ | ⟨g1, s, g2, g3⟩
      · refine ⟨a', σ', ?_, hpre, ⟨g5.rs (cK_all g4 σ'), g5.ka (Nat.le_refl _) g5.lt⟩⟩
        rw [g1, g2, EE, Ex_run C_impl_LexSource rfl]
        simp (config := {contextual := true, implicitDefEqProofs := false, maxSteps := 1000000}) only [
    ↓PR0, ↓PR1, ↓PR2, PO0, PO1, PO2, PO3, idxV_str, result, resOf, allSome, number, upd, List.map, Option.bind_some, Nat.reduceAdd, Nat.reduceSub, Nat.reduceLeDiff, Nat.reduceLT, Nat.reduceEqDiff, Nat.zero_add, Nat.add_zero, Nat.le_refl, 
    reduceIte, ne_eq, not_false_eq_true, and_self, true_and, and_true, reduceCtorEq, cond_true, cond_false, c_impl_LexSource, h1', h2', decide_false, List.replicate_zero, hr, g6]
      · refine ⟨s, σ', ?_, hpre, by rw [g1]; exact g2.wide (fun _ _ _ _ _ _ _ _ _ h => h) (by omega) (Nat.le_refl _)⟩
        rw [EE, Ex_run C_impl_LexSource rfl]
        simp (config := {contextual := true, implicitDefEqProofs := false, maxSteps := 1000000}) only [
    ↓PR0, ↓PR1, ↓PR2, PO0, PO1, PO2, PO3, idxV_str, result, resOf, allSome, number, upd, List.map, Option.bind_some, Nat.reduceAdd, Nat.reduceSub, Nat.reduceLeDiff, Nat.reduceLT, Nat.reduceEqDiff, Nat.zero_add, Nat.add_zero, Nat.le_refl, 
    reduceIte, ne_eq, not_false_eq_true, and_self, true_and, and_true, reduceCtorEq, cond_true, cond_false, c_impl_LexSource, h1', h2', decide_false, List.replicate_zero, hr, g3]
end Go.X
