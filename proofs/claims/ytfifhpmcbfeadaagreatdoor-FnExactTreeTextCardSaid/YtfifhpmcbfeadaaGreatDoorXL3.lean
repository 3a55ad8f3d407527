/- Texts that can be printed. -/
import Derived.Test.YtfifhpmcbfeadaaGreatDoorXL2
set_option linter.unusedVariables false
set_option linter.unusedSimpArgs false
set_option maxRecDepth 20000
namespace Go.X
open Go
variable {X : Call}

/-- Bytes that can be printed. -/
def prB (b : UInt8) : Bool := decide ((32 : Int) ≤ (b.toNat : Nat)) && decide (((b.toNat : Nat) : Int) ≤ 126)
/-- How many elements from i on are so. -/
def runN (p : UInt8 → Bool) : List UInt8 → Nat
  | [] => 0
  | b :: l => if p b = true then runN p l + 1 else 0
theorem runN_le (p : UInt8 → Bool) : ∀ l, runN p l ≤ l.length
  | [] => Nat.le_refl _
  | b :: l => by
    have := runN_le p l
    simp only [runN, List.length_cons]
    split <;> omega
theorem runN_all (p : UInt8 → Bool) : ∀ l, (runN p l == l.length) = l.all p
  | [] => rfl
  | b :: l => by
    have ih := runN_all p l
    have := runN_le p l
    simp only [runN, List.all_cons, List.length_cons]
    cases hb : p b with
    | true =>
      simp only [if_true, Bool.true_and]
      rw [← ih]
      rw [Bool.eq_iff_iff]; simp
    | false => simp

theorem run_loop {R : Type} (p : UInt8 → Bool) (fv : FuncId) (caps : List AV) (t : List UInt8) (σ : Store) (hf : ∀ b : UInt8, EE X fv (.int .u8 (b.toNat : Nat) :: caps) σ = some (.bool (p b), σ)) (hl : t.length ≤ 9223372036854775807) (kk : Out → S → Option R) : ∀ d i, i + d = t.length →
    loopK (EE X) [0, 1, 2] l_impl_run_0 ([(0, .v (.str t)), (1, .v (int i)), (2, .v (.fn fv caps))], ⟨[], σ⟩) kk =
      kk (.exit 0) ([(0, .v (.str t)), (1, .v (int ((i + runN p (t.drop i) : Nat) : Int))), (2, .v (.fn fv caps)), (17, .v (.bool false))], ⟨[], σ⟩) := by
  intro d
  induction d with
  | zero =>
    intro i hi
    have e : i = t.length := by omega
    subst e
    rw [loopK_step l_impl_run_0.eq_1, List.drop_length]
    simp (config := {contextual := true, implicitDefEqProofs := false, maxSteps := 1000000}) only [
    ↓PR0, ↓PR1, ↓PR2, PO0, PO1, PO2, PO3, idxV_str, result, resOf, allSome, number, upd, List.map, Option.bind_some, Nat.reduceAdd, Nat.reduceSub, Nat.reduceLeDiff, Nat.reduceLT, Nat.reduceEqDiff, Nat.zero_add, Nat.add_zero, Nat.le_refl, 
    reduceIte, ne_eq, not_false_eq_true, and_self, true_and, and_true, reduceCtorEq, cond_true, cond_false, Int.lt_irrefl, decide_false, runN]
  | succ d ih =>
    intro i hi
    have hlt : i < t.length := by omega
    have hlt' : (i : Int) < (t.length : Int) := by omega
    have hw : IntKind.i64.wrap ((i : Int) + 1) = ((i + 1 : Nat) : Int) := wrap64 (by omega) (by omega)
    have ih' := ih (i + 1) (by omega)
    have hix := idx_nat t hlt
    have hc := hf t[i]
    rw [List.drop_eq_getElem_cons hlt, loopK_step l_impl_run_0.eq_1]
    cases hp : p t[i] with
    | true =>
      rw [hp] at hc
      have e1 : i + (runN p (t.drop (i + 1)) + 1) = i + 1 + runN p (t.drop (i + 1)) := by omega
      simp (config := {contextual := true, implicitDefEqProofs := false, maxSteps := 1000000}) only [
    ↓PR0, ↓PR1, ↓PR2, PO0, PO1, PO2, PO3, result, resOf, allSome, number, upd, List.map, Option.bind_some, Nat.reduceAdd, Nat.reduceSub, Nat.reduceLeDiff, Nat.reduceLT, Nat.reduceEqDiff, Nat.zero_add, Nat.add_zero, Nat.le_refl, reduceIte, 
    ne_eq, not_false_eq_true, and_self, true_and, and_true, reduceCtorEq, cond_true, cond_false, hlt', decide_true, hix, hc, hw, ih', runN, hp, if_true, e1]
    | false =>
      rw [hp] at hc
      simp (config := {contextual := true, implicitDefEqProofs := false, maxSteps := 1000000}) only [
    ↓PR0, ↓PR1, ↓PR2, PO0, PO1, PO2, PO3, result, resOf, allSome, number, upd, List.map, Option.bind_some, Nat.reduceAdd, Nat.reduceSub, Nat.reduceLeDiff, Nat.reduceLT, Nat.reduceEqDiff, Nat.zero_add, Nat.add_zero, Nat.le_refl, reduceIte, 
    ne_eq, not_false_eq_true, and_self, true_and, and_true, reduceCtorEq, cond_true, cond_false, hlt', decide_true, hix, hc, runN, hp, if_false, Bool.false_eq_true]
theorem run_eq (p : UInt8 → Bool) (fv : FuncId) (caps : List AV) (t : List UInt8) (i : Nat) (σ : Store) (hf : ∀ b : UInt8, EE X fv (.int .u8 (b.toNat : Nat) :: caps) σ = some (.bool (p b), σ)) (hl : t.length ≤ 9223372036854775807) (hi : i ≤ t.length) :
    EE X f_impl_run [.str t, int i, .fn fv caps] σ = some (int ((i + runN p (t.drop i) : Nat) : Int), σ) := by
  have h := fun kk : Out → S → Option (AV × Store) => run_loop (X := X) p fv caps t σ hf hl kk (t.length - i) i (by omega)
  rw [EE, Ex_run C_impl_run rfl]
  simp (config := {contextual := true, implicitDefEqProofs := false, maxSteps := 1000000}) only [
    ↓PR0, ↓PR1, ↓PR2, PO0, PO1, PO2, PO3, idxV_str, result, resOf, allSome, number, upd, List.map, Option.bind_some, Nat.reduceAdd, Nat.reduceSub, Nat.reduceLeDiff, Nat.reduceLT, Nat.reduceEqDiff, Nat.zero_add, Nat.add_zero, Nat.le_refl, 
    reduceIte, ne_eq, not_false_eq_true, and_self, true_and, and_true, reduceCtorEq, cond_true, cond_false, c_impl_run, h]
theorem printable1_eq (b : UInt8) (σ : Store) : EE X f_impl_printable_1 [.int .u8 (b.toNat : Nat)] σ = some (.bool (prB b), σ) := by
  rw [EE, Ex_run C_impl_printable_1 rfl]
  simp (config := {contextual := true, implicitDefEqProofs := false, maxSteps := 1000000}) only [
    ↓PR0, ↓PR1, ↓PR2, PO0, PO1, PO2, PO3, idxV_str, result, resOf, allSome, number, upd, List.map, Option.bind_some, Nat.reduceAdd, Nat.reduceSub, Nat.reduceLeDiff, Nat.reduceLT, Nat.reduceEqDiff, Nat.zero_add, Nat.add_zero, Nat.le_refl, 
    reduceIte, ne_eq, not_false_eq_true, and_self, true_and, and_true, reduceCtorEq, cond_true, cond_false, c_impl_printable_1]
  simp only [prB]
  cases decide ((32 : Int) ≤ (b.toNat : Nat)) <;> rfl
theorem printable_eq (t : List UInt8) (σ : Store) (ht : LenOk t.length) : EE X f_impl_printable [.str t] σ = some (.bool (t.all prB), σ) := by
  have h := run_eq (X := X) prB f_impl_printable_1 [] t 0 σ (fun b => printable1_eq b σ) ht (Nat.zero_le _)
  simp only [List.drop_zero, Nat.zero_add, Int.cast_ofNat_Int] at h
  have e : (((runN prB t : Nat) : Int) == (t.length : Int)) = t.all prB := by
    rw [← runN_all, Bool.eq_iff_iff]; simp only [beq_iff_eq]; omega
  rw [EE, Ex_run C_impl_printable rfl]
  simp (config := {contextual := true, implicitDefEqProofs := false, maxSteps := 1000000}) only [
    ↓PR0, ↓PR1, ↓PR2, PO0, PO1, PO2, PO3, idxV_str, result, resOf, allSome, number, upd, List.map, Option.bind_some, Nat.reduceAdd, Nat.reduceSub, Nat.reduceLeDiff, Nat.reduceLT, Nat.reduceEqDiff, Nat.zero_add, Nat.add_zero, Nat.le_refl, 
    reduceIte, ne_eq, not_false_eq_true, and_self, true_and, and_true, reduceCtorEq, cond_true, cond_false, c_impl_printable, h, e]
/-- A text that may stand between quotes. -/
def plainM (t : List UInt8) : Bool := decide ((t.length : Int) ≤ 60) && t.all prB
theorem wordText_eq (t : List UInt8) (σ : Store) (ht : LenOk t.length) : EE X f_impl_wordText [.str t] σ = some (.bool (plainM t), σ) := by
  have h := printable_eq (X := X) t σ ht
  rw [EE, Ex_run C_impl_wordText rfl]
  simp (config := {contextual := true, implicitDefEqProofs := false, maxSteps := 1000000}) only [
    ↓PR0, ↓PR1, ↓PR2, PO0, PO1, PO2, PO3, idxV_str, result, resOf, allSome, number, upd, List.map, Option.bind_some, Nat.reduceAdd, Nat.reduceSub, Nat.reduceLeDiff, Nat.reduceLT, Nat.reduceEqDiff, Nat.zero_add, Nat.add_zero, Nat.le_refl, 
    reduceIte, ne_eq, not_false_eq_true, and_self, true_and, and_true, reduceCtorEq, cond_true, cond_false, c_impl_wordText, h]
  simp only [plainM]
  cases decide ((t.length : Int) ≤ 60) <;> rfl
theorem l01In_eq'' (a b c : Int) (σ : Store) : EE X f_spec_l01In [int a, int b, int c] σ = some (.bool (decide (b ≤ a) && decide (a ≤ c)), σ) := by
  rw [EE, Ex_run C_spec_l01In rfl]
  simp (config := {contextual := true, implicitDefEqProofs := false, maxSteps := 1000000}) only [
    ↓PR0, ↓PR1, ↓PR2, PO0, PO1, PO2, PO3, idxV_str, result, resOf, allSome, number, upd, List.map, Option.bind_some, Nat.reduceAdd, Nat.reduceSub, Nat.reduceLeDiff, Nat.reduceLT, Nat.reduceEqDiff, Nat.zero_add, Nat.add_zero, Nat.le_refl, 
    reduceIte, ne_eq, not_false_eq_true, and_self, true_and, and_true, reduceCtorEq, cond_true, cond_false, c_spec_l01In]
  cases decide (b ≤ a) <;> rfl
theorem l02Plain_loop {R : Type} (t : List UInt8) (σ : Store) (hl : t.length ≤ 9223372036854775807) (kk : Out → S → Option R) : ∀ d i, i + d = t.length →
    loopK (EE X) [0, 3] l_spec_l02Plain_0 ([(0, .v (.str t)), (3, .v (int i))], ⟨[], σ⟩) kk =
      br ((t.drop i).all prB) (kk (.exit 0) ([(0, .v (.str t)), (3, .v (int t.length)), (7, .v (.bool false))], ⟨[], σ⟩)) (kk .ret ([(2, .v (.bool false))], ⟨[], σ⟩)) := by
  intro d
  induction d with
  | zero =>
    intro i hi
    have e : i = t.length := by omega
    subst e
    rw [loopK_step l_spec_l02Plain_0.eq_1, List.drop_length]
    simp (config := {contextual := true, implicitDefEqProofs := false, maxSteps := 1000000}) only [
    ↓PR0, ↓PR1, ↓PR2, PO0, PO1, PO2, PO3, idxV_str, result, resOf, allSome, number, upd, List.map, Option.bind_some, Nat.reduceAdd, Nat.reduceSub, Nat.reduceLeDiff, Nat.reduceLT, Nat.reduceEqDiff, Nat.zero_add, Nat.add_zero, Nat.le_refl, 
    reduceIte, ne_eq, not_false_eq_true, and_self, true_and, and_true, reduceCtorEq, cond_true, cond_false, Int.lt_irrefl, decide_false, List.all_nil]
  | succ d ih =>
    intro i hi
    have hlt : i < t.length := by omega
    have hlt' : (i : Int) < (t.length : Int) := by omega
    have hw : IntKind.i64.wrap ((i : Int) + 1) = ((i + 1 : Nat) : Int) := wrap64 (by omega) (by omega)
    have ih' := ih (i + 1) (by omega)
    have hix := idx_nat t hlt
    have hb : t[i].toNat < 256 := UInt8.toNat_lt _
    have hc : IntKind.i64.wrap ((t[i].toNat : Nat) : Int) = (t[i].toNat : Nat) := wrap64 (by omega) (by omega)
    have hin := l01In_eq'' (X := X) (t[i].toNat : Nat) 32 126 σ
    have hp : (decide ((32 : Int) ≤ (t[i].toNat : Nat)) && decide (((t[i].toNat : Nat) : Int) ≤ 126)) = prB t[i] := rfl
    rw [hp] at hin
    rw [List.drop_eq_getElem_cons hlt, List.all_cons, loopK_step l_spec_l02Plain_0.eq_1]
    cases hpb : prB t[i] with
    | true =>
      rw [hpb] at hin
      simp (config := {contextual := true, implicitDefEqProofs := false, maxSteps := 1000000}) only [
    ↓PR0, ↓PR1, ↓PR2, PO0, PO1, PO2, PO3, result, resOf, allSome, number, upd, List.map, Option.bind_some, Nat.reduceAdd, Nat.reduceSub, Nat.reduceLeDiff, Nat.reduceLT, Nat.reduceEqDiff, Nat.zero_add, Nat.add_zero, Nat.le_refl, reduceIte, 
    ne_eq, not_false_eq_true, and_self, true_and, and_true, reduceCtorEq, cond_true, cond_false, hlt', decide_true, hix, hc, hin, Bool.not_true, hw, ih', Bool.true_and]
    | false =>
      rw [hpb] at hin
      simp (config := {contextual := true, implicitDefEqProofs := false, maxSteps := 1000000}) only [
    ↓PR0, ↓PR1, ↓PR2, PO0, PO1, PO2, PO3, result, resOf, allSome, number, upd, List.map, Option.bind_some, Nat.reduceAdd, Nat.reduceSub, Nat.reduceLeDiff, Nat.reduceLT, Nat.reduceEqDiff, Nat.zero_add, Nat.add_zero, Nat.le_refl, reduceIte, 
    ne_eq, not_false_eq_true, and_self, true_and, and_true, reduceCtorEq, cond_true, cond_false, hlt', decide_true, hix, hc, hin, Bool.not_false, Bool.false_and]
theorem l02Plain_eq (t : List UInt8) (σ : Store) (ht : LenOk t.length) : EE X f_spec_l02Plain [.str t] σ = some (.bool (plainM t), σ) := by
  have h := fun kk : Out → S → Option (AV × Store) => l02Plain_loop (X := X) t σ ht kk t.length 0 (by omega)
  simp only [Int.cast_ofNat_Int, List.drop_zero] at h
  rw [EE, Ex_run C_spec_l02Plain rfl]
  simp (config := {contextual := true, implicitDefEqProofs := false, maxSteps := 1000000}) only [
    ↓PR0, ↓PR1, ↓PR2, PO0, PO1, PO2, PO3, idxV_str, result, resOf, allSome, number, upd, List.map, Option.bind_some, Nat.reduceAdd, Nat.reduceSub, Nat.reduceLeDiff, Nat.reduceLT, Nat.reduceEqDiff, Nat.zero_add, Nat.add_zero, Nat.le_refl, 
    reduceIte, ne_eq, not_false_eq_true, and_self, true_and, and_true, reduceCtorEq, cond_true, cond_false, c_spec_l02Plain, h]
  simp only [plainM]
  cases t.all prB <;> cases decide ((t.length : Int) ≤ 60) <;> rfl
theorem isUnary_eq (t : List UInt8) (σ : Store) : EE X f_impl_isUnary [.str t] σ = some (.bool (t == [33] || t == [45]), σ) := by
  rw [EE, Ex_run C_impl_isUnary rfl]
  simp (config := {contextual := true, implicitDefEqProofs := false, maxSteps := 1000000}) only [
    ↓PR0, ↓PR1, ↓PR2, PO0, PO1, PO2, PO3, idxV_str, result, resOf, allSome, number, upd, List.map, Option.bind_some, Nat.reduceAdd, Nat.reduceSub, Nat.reduceLeDiff, Nat.reduceLT, Nat.reduceEqDiff, Nat.zero_add, Nat.add_zero, Nat.le_refl, 
    reduceIte, ne_eq, not_false_eq_true, and_self, true_and, and_true, reduceCtorEq, cond_true, cond_false, c_impl_isUnary]
  cases t == [33] <;> rfl
end Go.X
