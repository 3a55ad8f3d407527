/- Words of the language; names that are none. -/
import Derived.Test.YtfifhpmcbfeadaaGreatDoorXL1
import Derived.Test.YtfifhpmcbfeadaaGreatDoorXK1
set_option linter.unusedVariables false
set_option linter.unusedSimpArgs false
set_option maxRecDepth 20000
namespace Go.X
open Go
variable {X : Call}

/-- let if else while return throw try catch function true false null -/
def srcWords : List (List UInt8) := [[108, 101, 116], [105, 102], [101, 108, 115, 101], [119, 104, 105, 108, 101], [114, 101, 116, 117, 114, 110], [116, 104, 114, 111, 119], [116, 114, 121], [99, 97, 116, 99, 104], [102, 117, 110, 99, 116, 105, 111, 110], [116, 114, 117, 101], [102, 97, 108, 115, 101], [110, 117, 108, 108]]
def wordOK (t : List UInt8) : Bool := srcWords.any (fun x => t == x)
theorem srcWords_len : ∀ t ∈ srcWords, t.length ≤ 8 := by decide
theorem sourceWords_eq (σ : Store) : EE X f_impl_sourceWords [] σ = some (.sl σ.length 0 0 12, σ ++ [⟨srcWords.map (fun t => [.str t]), 1, 0, .own⟩]) := by
  rw [EE, Ex_run C_impl_sourceWords rfl]
  simp (config := {contextual := true, implicitDefEqProofs := false, maxSteps := 1000000}) only [
    ↓PR0, ↓PR1, ↓PR2, PO0, PO1, PO2, PO3, idxV_str, result, resOf, allSome, number, upd, List.map, Option.bind_some, Nat.reduceAdd, Nat.reduceSub, Nat.reduceLeDiff, Nat.reduceLT, Nat.reduceEqDiff, Nat.zero_add, Nat.add_zero, Nat.le_refl, 
    reduceIte, ne_eq, not_false_eq_true, and_self, true_and, and_true, reduceCtorEq, cond_true, cond_false, c_impl_sourceWords, List.replicate_succ, List.replicate_zero, List.set_cons_zero, List.set_cons_succ, srcWords]
theorem l02Words_eq (σ : Store) : EE X f_spec_l02Words [] σ = some (.sl σ.length 0 0 12, σ ++ [⟨srcWords.map (fun t => [.str t]), 1, 0, .own⟩]) := by
  rw [EE, Ex_run C_spec_l02Words rfl]
  simp (config := {contextual := true, implicitDefEqProofs := false, maxSteps := 1000000}) only [
    ↓PR0, ↓PR1, ↓PR2, PO0, PO1, PO2, PO3, idxV_str, result, resOf, allSome, number, upd, List.map, Option.bind_some, Nat.reduceAdd, Nat.reduceSub, Nat.reduceLeDiff, Nat.reduceLT, Nat.reduceEqDiff, Nat.zero_add, Nat.add_zero, Nat.le_refl, 
    reduceIte, ne_eq, not_false_eq_true, and_self, true_and, and_true, reduceCtorEq, cond_true, cond_false, c_spec_l02Words, List.replicate_succ, List.replicate_zero, List.set_cons_zero, List.set_cons_succ, srcWords]
theorem srcWords_rs (σ : Store) : RS RT 1 (σ ++ [⟨srcWords.map (fun t => [.str t]), 1, 0, .own⟩]) srcWords (.sl σ.length 0 0 12) := lits σ srcWords (fun t ht => by have := srcWords_len t ht; unfold LenOk; omega)
theorem implWordOK_eq (t : List UInt8) (σ : Store) : EE X f_impl_WordOK [.str t] σ = some (.bool (wordOK t), σ ++ [⟨srcWords.map (fun t => [.str t]), 1, 0, .own⟩]) := by
  have h := contains_eq (X := X) _ srcWords _ t (srcWords_rs σ) (by decide)
  have h1 := sourceWords_eq (X := X) σ
  rw [EE, Ex_run C_impl_WordOK rfl]
  simp (config := {contextual := true, implicitDefEqProofs := false, maxSteps := 1000000}) only [
    ↓PR0, ↓PR1, ↓PR2, PO0, PO1, PO2, PO3, idxV_str, result, resOf, allSome, number, upd, List.map, Option.bind_some, Nat.reduceAdd, Nat.reduceSub, Nat.reduceLeDiff, Nat.reduceLT, Nat.reduceEqDiff, Nat.zero_add, Nat.add_zero, Nat.le_refl, 
    reduceIte, ne_eq, not_false_eq_true, and_self, true_and, and_true, reduceCtorEq, cond_true, cond_false, c_impl_WordOK, h1, h, wordOK]
theorem specWordOK_loop {R : Type} (t : List UInt8) (σ : Store) (l : List (List UInt8)) (a : AV) (ha : RS RT 1 σ l a) (hl : l.length ≤ 1000) (kk : Out → S → Option R) : ∀ d i, i + d = l.length →
    loopK (EE X) [0, 3, 4] l_spec_WordOK_0 ([(0, .v (.str t)), (3, .v a), (4, .v (int i))], ⟨[], σ⟩) kk =
      br ((l.drop i).any (fun x => t == x)) (kk .ret ([(2, .v (.bool true))], ⟨[], σ⟩)) (kk (.exit 0) ([(0, .v (.str t)), (3, .v a), (4, .v (int l.length)), (12, .v (.bool false))], ⟨[], σ⟩)) := by
  intro d
  induction d with
  | zero =>
    intro i hi
    have e : i = l.length := by omega
    subst e
    rw [loopK_step l_spec_WordOK_0.eq_1, List.drop_length]
    simp (config := {contextual := true, implicitDefEqProofs := false, maxSteps := 1000000}) only [
    ↓PR0, ↓PR1, ↓PR2, PO0, PO1, PO2, PO3, idxV_str, result, resOf, allSome, number, upd, List.map, Option.bind_some, Nat.reduceAdd, Nat.reduceSub, Nat.reduceLeDiff, Nat.reduceLT, Nat.reduceEqDiff, Nat.zero_add, Nat.add_zero, Nat.le_refl, 
    reduceIte, ne_eq, not_false_eq_true, and_self, true_and, and_true, reduceCtorEq, cond_true, cond_false, ha.len, Int.lt_irrefl, decide_false, List.any_nil]
  | succ d ih =>
    intro i hi
    have hlt : i < l.length := by omega
    have hlt' : (i : Int) < (l.length : Int) := by omega
    have hw : IntKind.i64.wrap ((i : Int) + 1) = ((i + 1 : Nat) : Int) := wrap64 (by omega) (by omega)
    have ih' := ih (i + 1) (by omega)
    obtain ⟨cs, ⟨hp, _⟩, ha1, ha2, _⟩ := ha.get (List.getElem?_eq_getElem hlt)
    subst hp
    have hc : (l[i] == t) = (t == l[i]) := Bool.beq_comm
    rw [List.drop_eq_getElem_cons hlt, List.any_cons, loopK_step l_spec_WordOK_0.eq_1]
    cases hb : t == l[i] with
    | true => simp (config := {contextual := true, implicitDefEqProofs := false, maxSteps := 1000000}) only [
    ↓PR0, ↓PR1, ↓PR2, PO0, PO1, PO2, PO3, idxV_str, result, resOf, allSome, number, upd, List.map, Option.bind_some, Nat.reduceAdd, Nat.reduceSub, Nat.reduceLeDiff, Nat.reduceLT, Nat.reduceEqDiff, Nat.zero_add, Nat.add_zero, Nat.le_refl, 
    reduceIte, ne_eq, not_false_eq_true, and_self, true_and, and_true, reduceCtorEq, cond_true, cond_false, ha.len, hlt', decide_true, ha1, ha2, hc, hb, Bool.true_or]
    | false => simp (config := {contextual := true, implicitDefEqProofs := false, maxSteps := 1000000}) only [
    ↓PR0, ↓PR1, ↓PR2, PO0, PO1, PO2, PO3, idxV_str, result, resOf, allSome, number, upd, List.map, Option.bind_some, Nat.reduceAdd, Nat.reduceSub, Nat.reduceLeDiff, Nat.reduceLT, Nat.reduceEqDiff, Nat.zero_add, Nat.add_zero, Nat.le_refl, 
    reduceIte, ne_eq, not_false_eq_true, and_self, true_and, and_true, reduceCtorEq, cond_true, cond_false, ha.len, hlt', decide_true, ha1, ha2, hc, hb, Bool.false_or, hw, ih']
theorem specWordOK_eq (t : List UInt8) (σ : Store) : ∃ σ', EE X f_spec_WordOK [.str t] σ = some (.bool (wordOK t), σ') ∧ Pre σ σ' := by
  by_cases hb : 65536 < t.length
  · have h1 : (65536 : Int) < (t.length : Int) := by omega
    have hn : wordOK t = false := by
      cases h : wordOK t with
      | false => rfl
      | true =>
        simp only [wordOK, List.any_eq_true, beq_iff_eq] at h
        obtain ⟨x, h2, rfl⟩ := h
        have := srcWords_len _ h2
        omega
    refine ⟨σ, ?_, Fr.refl _ _⟩
    rw [hn, EE, Ex_run C_spec_WordOK rfl]
    simp (config := {contextual := true, implicitDefEqProofs := false, maxSteps := 1000000}) only [
    ↓PR0, ↓PR1, ↓PR2, PO0, PO1, PO2, PO3, idxV_str, result, resOf, allSome, number, upd, List.map, Option.bind_some, Nat.reduceAdd, Nat.reduceSub, Nat.reduceLeDiff, Nat.reduceLT, Nat.reduceEqDiff, Nat.zero_add, Nat.add_zero, Nat.le_refl, 
    reduceIte, ne_eq, not_false_eq_true, and_self, true_and, and_true, reduceCtorEq, cond_true, cond_false, c_spec_WordOK, h1, decide_true]
  · have h1 : ¬ ((65536 : Int) < (t.length : Int)) := by omega
    have h2 := l02Words_eq (X := X) σ
    have hl := fun kk : Out → S → Option (AV × Store) => specWordOK_loop (X := X) t _ srcWords _ (srcWords_rs σ) (by decide) kk srcWords.length 0 (by omega)
    simp only [Int.cast_ofNat_Int, List.drop_zero] at hl
    refine ⟨_, ?_, Pre.app σ [(⟨srcWords.map (fun t => [.str t]), 1, 0, .own⟩ : Row)]⟩
    rw [EE, Ex_run C_spec_WordOK rfl]
    simp (config := {contextual := true, implicitDefEqProofs := false, maxSteps := 1000000}) only [
    ↓PR0, ↓PR1, ↓PR2, PO0, PO1, PO2, PO3, idxV_str, result, resOf, allSome, number, upd, List.map, Option.bind_some, Nat.reduceAdd, Nat.reduceSub, Nat.reduceLeDiff, Nat.reduceLT, Nat.reduceEqDiff, Nat.zero_add, Nat.add_zero, Nat.le_refl, 
    reduceIte, ne_eq, not_false_eq_true, and_self, true_and, and_true, reduceCtorEq, cond_true, cond_false, c_spec_WordOK, h1, decide_false, h2, hl]
    simp only [wordOK]
    cases srcWords.any (fun x => t == x) <;> rfl

/-- A name that is no word. -/
def identM (t : List UInt8) : Bool := nameOK t && decide ((t.length : Int) ≤ 20) && !wordOK t
theorem identOK_eq (t : List UInt8) (σ : Store) (ht : LenOk t.length) : ∃ σ', EE X f_impl_identOK [.str t] σ = some (.bool (identM t), σ') ∧ Pre σ σ' := by
  have h1 := implNameOK_eq (X := X) t σ ht
  have h2 := implWordOK_eq (X := X) t σ
  cases hn : nameOK t with
  | false =>
    refine ⟨σ, ?_, Fr.refl _ _⟩
    rw [EE, Ex_run C_impl_identOK rfl]
    simp (config := {contextual := true, implicitDefEqProofs := false, maxSteps := 1000000}) only [
    ↓PR0, ↓PR1, ↓PR2, PO0, PO1, PO2, PO3, idxV_str, result, resOf, allSome, number, upd, List.map, Option.bind_some, Nat.reduceAdd, Nat.reduceSub, Nat.reduceLeDiff, Nat.reduceLT, Nat.reduceEqDiff, Nat.zero_add, Nat.add_zero, Nat.le_refl, 
    reduceIte, ne_eq, not_false_eq_true, and_self, true_and, and_true, reduceCtorEq, cond_true, cond_false, c_impl_identOK, h1, hn, identM, Bool.false_and]
  | true =>
    cases hd : decide ((t.length : Int) ≤ 20) with
    | false =>
      refine ⟨σ, ?_, Fr.refl _ _⟩
      rw [EE, Ex_run C_impl_identOK rfl]
      simp (config := {contextual := true, implicitDefEqProofs := false, maxSteps := 1000000}) only [
    ↓PR0, ↓PR1, ↓PR2, PO0, PO1, PO2, PO3, idxV_str, result, resOf, allSome, number, upd, List.map, Option.bind_some, Nat.reduceAdd, Nat.reduceSub, Nat.reduceLeDiff, Nat.reduceLT, Nat.reduceEqDiff, Nat.zero_add, Nat.add_zero, Nat.le_refl, 
    reduceIte, ne_eq, not_false_eq_true, and_self, true_and, and_true, reduceCtorEq, cond_true, cond_false, c_impl_identOK, h1, hn, hd, identM, Bool.false_and, Bool.true_and]
    | true =>
      refine ⟨_, ?_, Pre.app σ [(⟨srcWords.map (fun t => [.str t]), 1, 0, .own⟩ : Row)]⟩
      rw [EE, Ex_run C_impl_identOK rfl]
      simp (config := {contextual := true, implicitDefEqProofs := false, maxSteps := 1000000}) only [
    ↓PR0, ↓PR1, ↓PR2, PO0, PO1, PO2, PO3, idxV_str, result, resOf, allSome, number, upd, List.map, Option.bind_some, Nat.reduceAdd, Nat.reduceSub, Nat.reduceLeDiff, Nat.reduceLT, Nat.reduceEqDiff, Nat.zero_add, Nat.add_zero, Nat.le_refl, 
    reduceIte, ne_eq, not_false_eq_true, and_self, true_and, and_true, reduceCtorEq, cond_true, cond_false, c_impl_identOK, h1, hn, hd, h2, identM, Bool.true_and]
theorem l03Name_eq (t : List UInt8) (σ : Store) (ht : LenOk t.length) : ∃ σ', EE X f_spec_l03Name [.str t] σ = some (.bool (identM t), σ') ∧ Pre σ σ' := by
  have h1 := specNameOK_eq (X := X) t σ ht
  obtain ⟨σ2, h2, p2⟩ := specWordOK_eq (X := X) t σ
  cases hn : nameOK t with
  | false =>
    refine ⟨σ, ?_, Fr.refl _ _⟩
    rw [EE, Ex_run C_spec_l03Name rfl]
    simp (config := {contextual := true, implicitDefEqProofs := false, maxSteps := 1000000}) only [
    ↓PR0, ↓PR1, ↓PR2, PO0, PO1, PO2, PO3, idxV_str, result, resOf, allSome, number, upd, List.map, Option.bind_some, Nat.reduceAdd, Nat.reduceSub, Nat.reduceLeDiff, Nat.reduceLT, Nat.reduceEqDiff, Nat.zero_add, Nat.add_zero, Nat.le_refl, 
    reduceIte, ne_eq, not_false_eq_true, and_self, true_and, and_true, reduceCtorEq, cond_true, cond_false, c_spec_l03Name, h1, hn, identM, Bool.false_and]
  | true =>
    cases hd : decide ((t.length : Int) ≤ 20) with
    | false =>
      refine ⟨σ, ?_, Fr.refl _ _⟩
      rw [EE, Ex_run C_spec_l03Name rfl]
      simp (config := {contextual := true, implicitDefEqProofs := false, maxSteps := 1000000}) only [
    ↓PR0, ↓PR1, ↓PR2, PO0, PO1, PO2, PO3, idxV_str, result, resOf, allSome, number, upd, List.map, Option.bind_some, Nat.reduceAdd, Nat.reduceSub, Nat.reduceLeDiff, Nat.reduceLT, Nat.reduceEqDiff, Nat.zero_add, Nat.add_zero, Nat.le_refl, 
    reduceIte, ne_eq, not_false_eq_true, and_self, true_and, and_true, reduceCtorEq, cond_true, cond_false, c_spec_l03Name, h1, hn, hd, identM, Bool.false_and, Bool.true_and]
    | true =>
      refine ⟨σ2, ?_, p2⟩
      rw [EE, Ex_run C_spec_l03Name rfl]
      simp (config := {contextual := true, implicitDefEqProofs := false, maxSteps := 1000000}) only [
    ↓PR0, ↓PR1, ↓PR2, PO0, PO1, PO2, PO3, idxV_str, result, resOf, allSome, number, upd, List.map, Option.bind_some, Nat.reduceAdd, Nat.reduceSub, Nat.reduceLeDiff, Nat.reduceLT, Nat.reduceEqDiff, Nat.zero_add, Nat.add_zero, Nat.le_refl, 
    reduceIte, ne_eq, not_false_eq_true, and_self, true_and, and_true, reduceCtorEq, cond_true, cond_false, c_spec_l03Name, h1, hn, hd, h2, identM, Bool.true_and]
end Go.X
