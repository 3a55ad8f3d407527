/- Go's slices: the first of a slice of texts that is a text; slices of texts that are written out. -/
import Derived.Test.YtfifhpmcbfeadaaGreatDoorXE
import Derived.Test.YtfifhpmcbfeadaaGreatDoorY6
set_option linter.unusedVariables false
set_option linter.unusedSimpArgs false
set_option maxRecDepth 20000
namespace Go.X
open Go
variable {X : Call}

theorem index_eq (σ : Store) (l : List (List UInt8)) (a : AV) (t : List UInt8) (ha : RS RT 1 σ l a) (h6 : l.length ≤ 1048576) : EE X f_slices_Index_string [a, .str t] σ = some (int (match fndP (fun x => t == x) l with | none => -1 | some k => (k : Int)), σ) := by
  have skip : ∀ (kk : Out → S → Option (AV × Store)) d i, i + d ≤ l.length → (∀ (j : Nat) s, j < i + d → l[j]? = some s → (t == s) = false) →
      loopK (EE X) [0, 1, 7, 8] l_slices_Index_string_0 ([(0, .v a), (1, .v (.str t)), (7, .v (int l.length)), (8, .v (int i))], ⟨[], σ⟩) kk =
      loopK (EE X) [0, 1, 7, 8] l_slices_Index_string_0 ([(0, .v a), (1, .v (.str t)), (7, .v (int l.length)), (8, .v (int ((i + d : Nat) : Int)))], ⟨[], σ⟩) kk := by
    intro kk d
    induction d with
    | zero => intro i _ _; rfl
    | succ d ih =>
      intro i hi hn
      have hlt : i < l.length := by omega
      have hlt' : (i : Int) < (l.length : Int) := by omega
      have hw : IntKind.i64.wrap ((i : Int) + 1) = ((i + 1 : Nat) : Int) := wrap64 (by omega) (by omega)
      obtain ⟨cs, ⟨hp', _⟩, ha1, ha2, ha3, ha4⟩ := ha.get (List.getElem?_eq_getElem hlt)
      subst hp'
      have hne := hn i _ (by omega) (List.getElem?_eq_getElem hlt)
      have e : i + (d + 1) = (i + 1) + d := by omega
      rw [e, ← ih (i + 1) (by omega) (fun j s hj => hn j s (by omega)), loopK_step l_slices_Index_string_0.eq_1]
      simp (config := {contextual := true, implicitDefEqProofs := false, maxSteps := 1000000}) only [
    ↓PR0, ↓PR1, ↓PR2, PO0, PO1, PO2, PO3, idxV_str, result, resOf, allSome, number, upd, List.map, Option.bind_some, Nat.reduceAdd, Nat.reduceSub, Nat.reduceLeDiff, Nat.reduceLT, Nat.reduceEqDiff, Nat.zero_add, Nat.add_zero, Nat.le_refl, 
    reduceIte, ne_eq, not_false_eq_true, and_self, true_and, and_true, reduceCtorEq, cond_true, cond_false, ha.len, hlt', decide_true, ha1, ha2, hne, hw]
  cases hf : fndP (fun x => t == x) l with
  | none =>
    have h : ∀ kk : Out → S → Option (AV × Store), loopK (EE X) [0, 1, 7, 8] l_slices_Index_string_0 ([(0, .v a), (1, .v (.str t)), (7, .v (int l.length)), (8, .v (int 0))], ⟨[], σ⟩) kk = kk (.exit 0) ([(0, .v a), (1, .v (.str t)), (7, .v (int l.length)), (8, .v (int l.length)), (9, .v (.bool false))], ⟨[], σ⟩) := by
      intro kk
      have h := skip kk l.length 0 (by omega) (fun j s _ h => fndP_none hf j s h)
      rw [Nat.zero_add] at h
      refine Eq.trans h ?_
      rw [loopK_step l_slices_Index_string_0.eq_1]
      simp (config := {contextual := true, implicitDefEqProofs := false, maxSteps := 1000000}) only [
    ↓PR0, ↓PR1, ↓PR2, PO0, PO1, PO2, PO3, idxV_str, result, resOf, allSome, number, upd, List.map, Option.bind_some, Nat.reduceAdd, Nat.reduceSub, Nat.reduceLeDiff, Nat.reduceLT, Nat.reduceEqDiff, Nat.zero_add, Nat.add_zero, Nat.le_refl, 
    reduceIte, ne_eq, not_false_eq_true, and_self, true_and, and_true, reduceCtorEq, cond_true, cond_false, Int.lt_irrefl, decide_false]
    rw [EE, Ex_run C_slices_Index_string rfl]
    simp (config := {contextual := true, implicitDefEqProofs := false, maxSteps := 1000000}) only [
    ↓PR0, ↓PR1, ↓PR2, PO0, PO1, PO2, PO3, idxV_str, result, resOf, allSome, number, upd, List.map, Option.bind_some, Nat.reduceAdd, Nat.reduceSub, Nat.reduceLeDiff, Nat.reduceLT, Nat.reduceEqDiff, Nat.zero_add, Nat.add_zero, Nat.le_refl, 
    reduceIte, ne_eq, not_false_eq_true, and_self, true_and, and_true, reduceCtorEq, cond_true, cond_false, c_slices_Index_string, ha.len, h]
  | some k =>
    obtain ⟨⟨s, hs, hse⟩, hn⟩ := fndP_some hf
    have hlt := (List.getElem?_eq_some_iff.1 hs).1
    have hlt' : (k : Int) < (l.length : Int) := by omega
    obtain ⟨cs, ⟨hp', _⟩, ha1, ha2, ha3, ha4⟩ := ha.get hs
    subst hp'
    have h : ∀ kk : Out → S → Option (AV × Store), loopK (EE X) [0, 1, 7, 8] l_slices_Index_string_0 ([(0, .v a), (1, .v (.str t)), (7, .v (int l.length)), (8, .v (int 0))], ⟨[], σ⟩) kk = kk .ret ([(4, .v (int k))], ⟨[], σ⟩) := by
      intro kk
      have h := skip kk k 0 (by omega) (fun j s' hj h => hn j s' (by omega) h)
      rw [Nat.zero_add] at h
      refine Eq.trans h ?_
      rw [loopK_step l_slices_Index_string_0.eq_1]
      simp (config := {contextual := true, implicitDefEqProofs := false, maxSteps := 1000000}) only [
    ↓PR0, ↓PR1, ↓PR2, PO0, PO1, PO2, PO3, idxV_str, result, resOf, allSome, number, upd, List.map, Option.bind_some, Nat.reduceAdd, Nat.reduceSub, Nat.reduceLeDiff, Nat.reduceLT, Nat.reduceEqDiff, Nat.zero_add, Nat.add_zero, Nat.le_refl, 
    reduceIte, ne_eq, not_false_eq_true, and_self, true_and, and_true, reduceCtorEq, cond_true, cond_false, hlt', decide_true, ha1, ha2, hse]
    rw [EE, Ex_run C_slices_Index_string rfl]
    simp (config := {contextual := true, implicitDefEqProofs := false, maxSteps := 1000000}) only [
    ↓PR0, ↓PR1, ↓PR2, PO0, PO1, PO2, PO3, idxV_str, result, resOf, allSome, number, upd, List.map, Option.bind_some, Nat.reduceAdd, Nat.reduceSub, Nat.reduceLeDiff, Nat.reduceLT, Nat.reduceEqDiff, Nat.zero_add, Nat.add_zero, Nat.le_refl, 
    reduceIte, ne_eq, not_false_eq_true, and_self, true_and, and_true, reduceCtorEq, cond_true, cond_false, c_slices_Index_string, ha.len, h]
theorem contains_eq (σ : Store) (l : List (List UInt8)) (a : AV) (t : List UInt8) (ha : RS RT 1 σ l a) (h6 : l.length ≤ 1048576) : EE X f_slices_Contains_string [a, .str t] σ = some (.bool (l.any (fun x => t == x)), σ) := by
  have h := index_eq (X := X) σ l a t ha h6
  rw [← fndP_any]
  rw [EE, Ex_run C_slices_Contains_string rfl]
  cases hf : fndP (fun x => t == x) l with
  | none =>
    rw [hf] at h
    have h0 : ¬ ((0 : Int) ≤ -1) := by decide
    simp (config := {contextual := true, implicitDefEqProofs := false, maxSteps := 1000000}) only [
    ↓PR0, ↓PR1, ↓PR2, PO0, PO1, PO2, PO3, idxV_str, result, resOf, allSome, number, upd, List.map, Option.bind_some, Nat.reduceAdd, Nat.reduceSub, Nat.reduceLeDiff, Nat.reduceLT, Nat.reduceEqDiff, Nat.zero_add, Nat.add_zero, Nat.le_refl, 
    reduceIte, ne_eq, not_false_eq_true, and_self, true_and, and_true, reduceCtorEq, cond_true, cond_false, c_slices_Contains_string, h, h0, decide_false]
    rfl
  | some k =>
    rw [hf] at h
    have h0 : (0 : Int) ≤ (k : Int) := by omega
    simp (config := {contextual := true, implicitDefEqProofs := false, maxSteps := 1000000}) only [
    ↓PR0, ↓PR1, ↓PR2, PO0, PO1, PO2, PO3, idxV_str, result, resOf, allSome, number, upd, List.map, Option.bind_some, Nat.reduceAdd, Nat.reduceSub, Nat.reduceLeDiff, Nat.reduceLT, Nat.reduceEqDiff, Nat.zero_add, Nat.add_zero, Nat.le_refl, 
    reduceIte, ne_eq, not_false_eq_true, and_self, true_and, and_true, reduceCtorEq, cond_true, cond_false, c_slices_Contains_string, h, h0, decide_true]
/-- A slice of texts that was written out. -/
theorem lits (σ : Store) (l : List (List UInt8)) (h : ∀ t ∈ l, LenOk t.length) : RS RT 1 (σ ++ [⟨l.map (fun t => [.str t]), 1, 0, .own⟩]) l (.sl σ.length 0 0 l.length) := by
  refine ⟨_, by simpa using SlAt.new σ (l.map (fun t => [AV.str t])) 1, All2.map (fun t ht => ⟨rfl, h t ht⟩)⟩
end Go.X
