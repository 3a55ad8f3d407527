/- Letters, digits, words. -/
import Derived.Test.YtfifhpmcbfeadaaGreatDoorXE
import Derived.Test.YtfifhpmcbfeadaaGreatDoorY6
set_option linter.unusedVariables false
set_option linter.unusedSimpArgs false
set_option maxRecDepth 20000
namespace Go.X
open Go
variable {X : Call}

def ltrI (n : Int) : Bool := (decide (97 ≤ n) && decide (n ≤ 122)) || (decide (65 ≤ n) && decide (n ≤ 90)) || n == 95
def digI (n : Int) : Bool := decide (48 ≤ n) && decide (n ≤ 57)
theorem isLetter_eq (n : Int) (σ : Store) : EE X f_impl_isLetter [.int .u8 n] σ = some (.bool (ltrI n), σ) := by
  rw [EE, Ex_run C_impl_isLetter rfl]
  simp (config := {contextual := true, implicitDefEqProofs := false, maxSteps := 1000000}) only [
    ↓PR0, ↓PR1, ↓PR2, PO0, PO1, PO2, PO3, idxV_str, result, resOf, allSome, number, upd, List.map, Option.bind_some, Nat.reduceAdd, Nat.reduceSub, Nat.reduceLeDiff, Nat.reduceLT, Nat.reduceEqDiff, Nat.zero_add, Nat.add_zero, Nat.le_refl, 
    reduceIte, ne_eq, not_false_eq_true, and_self, true_and, and_true, reduceCtorEq, cond_true, cond_false, c_impl_isLetter]
  simp only [ltrI]
  cases decide (97 ≤ n) <;> cases decide (n ≤ 122) <;> cases decide (65 ≤ n) <;> cases decide (n ≤ 90) <;> rfl
theorem l00Letter_eq (n : Int) (σ : Store) : EE X f_spec_l00Letter [.int .u8 n] σ = some (.bool (ltrI n), σ) := by
  rw [EE, Ex_run C_spec_l00Letter rfl]
  simp (config := {contextual := true, implicitDefEqProofs := false, maxSteps := 1000000}) only [
    ↓PR0, ↓PR1, ↓PR2, PO0, PO1, PO2, PO3, idxV_str, result, resOf, allSome, number, upd, List.map, Option.bind_some, Nat.reduceAdd, Nat.reduceSub, Nat.reduceLeDiff, Nat.reduceLT, Nat.reduceEqDiff, Nat.zero_add, Nat.add_zero, Nat.le_refl, 
    reduceIte, ne_eq, not_false_eq_true, and_self, true_and, and_true, reduceCtorEq, cond_true, cond_false, c_spec_l00Letter]
  simp only [ltrI]
  cases decide (97 ≤ n) <;> cases decide (n ≤ 122) <;> cases decide (65 ≤ n) <;> cases decide (n ≤ 90) <;> rfl
theorem isDigit_eq (n : Int) (σ : Store) : EE X f_impl_isDigit [.int .u8 n] σ = some (.bool (digI n), σ) := by
  rw [EE, Ex_run C_impl_isDigit rfl]
  simp (config := {contextual := true, implicitDefEqProofs := false, maxSteps := 1000000}) only [
    ↓PR0, ↓PR1, ↓PR2, PO0, PO1, PO2, PO3, idxV_str, result, resOf, allSome, number, upd, List.map, Option.bind_some, Nat.reduceAdd, Nat.reduceSub, Nat.reduceLeDiff, Nat.reduceLT, Nat.reduceEqDiff, Nat.zero_add, Nat.add_zero, Nat.le_refl, 
    reduceIte, ne_eq, not_false_eq_true, and_self, true_and, and_true, reduceCtorEq, cond_true, cond_false, c_impl_isDigit]
  simp only [digI]
  cases decide (48 ≤ n) <;> rfl
theorem l00Digit_eq (n : Int) (σ : Store) : EE X f_spec_l00Digit [.int .u8 n] σ = some (.bool (digI n), σ) := by
  rw [EE, Ex_run C_spec_l00Digit rfl]
  simp (config := {contextual := true, implicitDefEqProofs := false, maxSteps := 1000000}) only [
    ↓PR0, ↓PR1, ↓PR2, PO0, PO1, PO2, PO3, idxV_str, result, resOf, allSome, number, upd, List.map, Option.bind_some, Nat.reduceAdd, Nat.reduceSub, Nat.reduceLeDiff, Nat.reduceLT, Nat.reduceEqDiff, Nat.zero_add, Nat.add_zero, Nat.le_refl, 
    reduceIte, ne_eq, not_false_eq_true, and_self, true_and, and_true, reduceCtorEq, cond_true, cond_false, c_spec_l00Digit]
  simp only [digI]
  cases decide (48 ≤ n) <;> rfl
/-- A letter or a digit. -/
def ldB (b : UInt8) : Bool := ltrI (b.toNat : Nat) || digI (b.toNat : Nat)
def nameOK (t : List UInt8) : Bool := match t with
  | [] => false
  | b :: r => decide (t.length ≤ 40) && ltrI (b.toNat : Nat) && r.all ldB
theorem ltr_dig (n : Int) : ltrI n = true → digI n = false := by
  simp only [ltrI, digI, Bool.or_eq_true, Bool.and_eq_true, decide_eq_true_eq, beq_iff_eq, Bool.and_eq_false_iff, decide_eq_false_iff_not]
  omega
theorem idx_nat (t : List UInt8) {i : Nat} (hi : i < t.length) : idxV (.str t) (int i) = some (.int .u8 (t[i].toNat : Nat)) := by
  rw [idxV_str, if_pos ⟨by omega, by omega⟩, Int.toNat_natCast, List.getD_eq_getElem?_getD, List.getElem?_eq_getElem hi]
  rfl
theorem within_eq'' (a b c : Int) (σ : Store) : EE X f_impl_within [int a, int b, int c] σ = some (.bool (decide (b ≤ a) && decide (a ≤ c)), σ) := by
  rw [EE, Ex_run C_impl_within rfl]
  simp (config := {contextual := true, implicitDefEqProofs := false, maxSteps := 1000000}) only [
    ↓PR0, ↓PR1, ↓PR2, PO0, PO1, PO2, PO3, idxV_str, result, resOf, allSome, number, upd, List.map, Option.bind_some, Nat.reduceAdd, Nat.reduceSub, Nat.reduceLeDiff, Nat.reduceLT, Nat.reduceEqDiff, Nat.zero_add, Nat.add_zero, Nat.le_refl, 
    reduceIte, ne_eq, not_false_eq_true, and_self, true_and, and_true, reduceCtorEq, cond_true, cond_false, c_impl_within]
  cases decide (b ≤ a) <;> rfl
theorem implNameOK_loop {R : Type} (t : List UInt8) (σ : Store) (hl : t.length ≤ 1000) (kk : Out → S → Option R) : ∀ d i, i + d = t.length →
    loopK (EE X) [0, 14, 15] l_impl_NameOK_0 ([(0, .v (.str t)), (14, .v (int t.length)), (15, .v (int i))], ⟨[], σ⟩) kk =
      br ((t.drop i).all ldB) (kk (.exit 0) ([(0, .v (.str t)), (14, .v (int t.length)), (15, .v (int t.length)), (16, .v (.bool false))], ⟨[], σ⟩)) (kk .ret ([(2, .v (.bool false))], ⟨[], σ⟩)) := by
  intro d
  induction d with
  | zero =>
    intro i hi
    have e : i = t.length := by omega
    subst e
    rw [loopK_step l_impl_NameOK_0.eq_1, List.drop_length]
    simp (config := {contextual := true, implicitDefEqProofs := false, maxSteps := 1000000}) only [
    ↓PR0, ↓PR1, ↓PR2, PO0, PO1, PO2, PO3, idxV_str, result, resOf, allSome, number, upd, List.map, Option.bind_some, Nat.reduceAdd, Nat.reduceSub, Nat.reduceLeDiff, Nat.reduceLT, Nat.reduceEqDiff, Nat.zero_add, Nat.add_zero, Nat.le_refl, 
    reduceIte, ne_eq, not_false_eq_true, and_self, true_and, and_true, reduceCtorEq, cond_true, cond_false, Int.lt_irrefl, decide_false, List.all_nil]
  | succ d ih =>
    intro i hi
    have hlt : i < t.length := by omega
    have hlt' : (i : Int) < (t.length : Int) := by omega
    have hw : IntKind.i64.wrap ((i : Int) + 1) = ((i + 1 : Nat) : Int) := wrap64 (by omega) (by omega)
    have ih' := ih (i + 1) (by omega)
    have hix := idx_nat t hlt
    rw [List.drop_eq_getElem_cons hlt, List.all_cons, loopK_step l_impl_NameOK_0.eq_1]
    have hld : ldB t[i] = (ltrI (t[i].toNat : Nat) || digI (t[i].toNat : Nat)) := rfl
    rw [hld]
    cases hL : ltrI (t[i].toNat : Nat) with
    | true =>
      simp (config := {contextual := true, implicitDefEqProofs := false, maxSteps := 1000000}) only [
    ↓PR0, ↓PR1, ↓PR2, PO0, PO1, PO2, PO3, result, resOf, allSome, number, upd, List.map, Option.bind_some, Nat.reduceAdd, Nat.reduceSub, Nat.reduceLeDiff, Nat.reduceLT, Nat.reduceEqDiff, Nat.zero_add, Nat.add_zero, Nat.le_refl, reduceIte, 
    ne_eq, not_false_eq_true, and_self, true_and, and_true, reduceCtorEq, cond_true, cond_false, hlt', decide_true, hix, isLetter_eq (X := X), hL, Bool.not_true, hw, ih', Bool.true_or, Bool.true_and]
    | false =>
      cases hD : digI (t[i].toNat : Nat) with
      | true => simp (config := {contextual := true, implicitDefEqProofs := false, maxSteps := 1000000}) only [
    ↓PR0, ↓PR1, ↓PR2, PO0, PO1, PO2, PO3, result, resOf, allSome, number, upd, List.map, Option.bind_some, Nat.reduceAdd, Nat.reduceSub, Nat.reduceLeDiff, Nat.reduceLT, Nat.reduceEqDiff, Nat.zero_add, Nat.add_zero, Nat.le_refl, reduceIte, 
    ne_eq, not_false_eq_true, and_self, true_and, and_true, reduceCtorEq, cond_true, cond_false, hlt', decide_true, hix, isLetter_eq (X := X), isDigit_eq (X := X), hL, hD, Bool.not_true, Bool.not_false, hw, ih', Bool.false_or, Bool.true_and]
      | false => simp (config := {contextual := true, implicitDefEqProofs := false, maxSteps := 1000000}) only [
    ↓PR0, ↓PR1, ↓PR2, PO0, PO1, PO2, PO3, result, resOf, allSome, number, upd, List.map, Option.bind_some, Nat.reduceAdd, Nat.reduceSub, Nat.reduceLeDiff, Nat.reduceLT, Nat.reduceEqDiff, Nat.zero_add, Nat.add_zero, Nat.le_refl, reduceIte, 
    ne_eq, not_false_eq_true, and_self, true_and, and_true, reduceCtorEq, cond_true, cond_false, hlt', decide_true, hix, isLetter_eq (X := X), isDigit_eq (X := X), hL, hD, Bool.not_false, Bool.false_or, Bool.false_and]
theorem implNameOK_eq (t : List UInt8) (σ : Store) (ht : LenOk t.length) : EE X f_impl_NameOK [.str t] σ = some (.bool (nameOK t), σ) := by
  have ht' : t.length ≤ 9223372036854775807 := ht
  by_cases hb : 1 ≤ t.length ∧ t.length ≤ 40
  · cases t with
    | nil => simp at hb
    | cons b r =>
      have hix : idxV (.str (b :: r)) (int 0) = some (.int .u8 (b.toNat : Nat)) := idx_nat (b :: r) (i := 0) (by simp)
      have hd1 : (decide ((1 : Int) ≤ ((r.length + 1 : Nat) : Int)) && decide (((r.length + 1 : Nat) : Int) ≤ 40)) = true := by
        rw [Bool.and_eq_true, decide_eq_true_eq, decide_eq_true_eq]; simp only [List.length_cons] at hb; omega
      have hl := fun kk : Out → S → Option (AV × Store) => implNameOK_loop (X := X) (b :: r) σ (by omega) kk (b :: r).length 0 (by omega)
      simp only [Int.cast_ofNat_Int, List.drop_zero, List.length_cons] at hl
      have h40 : decide ((b :: r).length ≤ 40) = true := by rw [decide_eq_true_eq]; exact hb.2
      rw [EE, Ex_run C_impl_NameOK rfl]
      simp only [nameOK, h40, Bool.true_and]
      cases hD : digI (b.toNat : Nat) with
      | true =>
        have hL : ltrI (b.toNat : Nat) = false := by
          cases hL : ltrI (b.toNat : Nat) with
          | false => rfl
          | true => rw [ltr_dig _ hL] at hD; cases hD
        simp (config := {contextual := true, implicitDefEqProofs := false, maxSteps := 1000000}) only [
    ↓PR0, ↓PR1, ↓PR2, PO0, PO1, PO2, PO3, result, resOf, allSome, number, upd, List.map, Option.bind_some, Nat.reduceAdd, Nat.reduceSub, Nat.reduceLeDiff, Nat.reduceLT, Nat.reduceEqDiff, Nat.zero_add, Nat.add_zero, Nat.le_refl, reduceIte, 
    ne_eq, not_false_eq_true, and_self, true_and, and_true, reduceCtorEq, cond_true, cond_false, c_impl_NameOK, within_eq'' (X := X), hd1, Bool.not_true, hix, isDigit_eq (X := X), hD, hL, Bool.false_and]
      | false =>
        have hld : ldB b = ltrI (b.toNat : Nat) := by simp only [ldB, hD, Bool.or_false]
        simp (config := {contextual := true, implicitDefEqProofs := false, maxSteps := 1000000}) only [
    ↓PR0, ↓PR1, ↓PR2, PO0, PO1, PO2, PO3, result, resOf, allSome, number, upd, List.map, Option.bind_some, Nat.reduceAdd, Nat.reduceSub, Nat.reduceLeDiff, Nat.reduceLT, Nat.reduceEqDiff, Nat.zero_add, Nat.add_zero, Nat.le_refl, reduceIte, 
    ne_eq, not_false_eq_true, and_self, true_and, and_true, reduceCtorEq, cond_true, cond_false, c_impl_NameOK, within_eq'' (X := X), hd1, Bool.not_true, hix, isDigit_eq (X := X), hD, hl, List.all_cons, hld]
        cases ltrI (b.toNat : Nat) <;> cases r.all ldB <;> rfl
  · have hd1 : (decide ((1 : Int) ≤ (t.length : Int)) && decide ((t.length : Int) ≤ 40)) = false := by
      rw [Bool.and_eq_false_iff, decide_eq_false_iff_not, decide_eq_false_iff_not]; omega
    have hn : nameOK t = false := by
      cases t with
      | nil => rfl
      | cons b r =>
        have : decide ((b :: r).length ≤ 40) = false := by rw [decide_eq_false_iff_not]; simp only [List.length_cons] at hb ⊢; omega
        simp only [nameOK, this, Bool.false_and]
    rw [hn, EE, Ex_run C_impl_NameOK rfl]
    simp (config := {contextual := true, implicitDefEqProofs := false, maxSteps := 1000000}) only [
    ↓PR0, ↓PR1, ↓PR2, PO0, PO1, PO2, PO3, result, resOf, allSome, number, upd, List.map, Option.bind_some, Nat.reduceAdd, Nat.reduceSub, Nat.reduceLeDiff, Nat.reduceLT, Nat.reduceEqDiff, Nat.zero_add, Nat.add_zero, Nat.le_refl, reduceIte, 
    ne_eq, not_false_eq_true, and_self, true_and, and_true, reduceCtorEq, cond_true, cond_false, c_impl_NameOK, within_eq'' (X := X), hd1, Bool.not_false]
theorem specWord_loop {R : Type} (t : List UInt8) (σ : Store) (hl : t.length ≤ 1000) (kk : Out → S → Option R) : ∀ d i, i + d = t.length →
    loopK (EE X) [0, 3] l_spec_l00Word_0 ([(0, .v (.str t)), (3, .v (int i))], ⟨[], σ⟩) kk =
      br ((t.drop i).all ldB) (kk (.exit 0) ([(0, .v (.str t)), (3, .v (int t.length)), (21, .v (.bool false))], ⟨[], σ⟩)) (kk .ret ([(2, .v (.bool false))], ⟨[], σ⟩)) := by
  intro d
  induction d with
  | zero =>
    intro i hi
    have e : i = t.length := by omega
    subst e
    rw [loopK_step l_spec_l00Word_0.eq_1, List.drop_length]
    simp (config := {contextual := true, implicitDefEqProofs := false, maxSteps := 1000000}) only [
    ↓PR0, ↓PR1, ↓PR2, PO0, PO1, PO2, PO3, idxV_str, result, resOf, allSome, number, upd, List.map, Option.bind_some, Nat.reduceAdd, Nat.reduceSub, Nat.reduceLeDiff, Nat.reduceLT, Nat.reduceEqDiff, Nat.zero_add, Nat.add_zero, Nat.le_refl, 
    reduceIte, ne_eq, not_false_eq_true, and_self, true_and, and_true, reduceCtorEq, cond_true, cond_false, Int.lt_irrefl, decide_false, List.all_nil]
  | succ d ih =>
    intro i hi
    have hlt : i < t.length := by omega
    have hlt' : (i : Int) < (t.length : Int) := by omega
    have hw : IntKind.i64.wrap ((i : Int) + 1) = ((i + 1 : Nat) : Int) := wrap64 (by omega) (by omega)
    have ih' := ih (i + 1) (by omega)
    have hix := idx_nat t hlt
    rw [List.drop_eq_getElem_cons hlt, List.all_cons, loopK_step l_spec_l00Word_0.eq_1]
    have hld : ldB t[i] = (ltrI (t[i].toNat : Nat) || digI (t[i].toNat : Nat)) := rfl
    rw [hld]
    cases hL : ltrI (t[i].toNat : Nat) with
    | true =>
      simp (config := {contextual := true, implicitDefEqProofs := false, maxSteps := 1000000}) only [
    ↓PR0, ↓PR1, ↓PR2, PO0, PO1, PO2, PO3, result, resOf, allSome, number, upd, List.map, Option.bind_some, Nat.reduceAdd, Nat.reduceSub, Nat.reduceLeDiff, Nat.reduceLT, Nat.reduceEqDiff, Nat.zero_add, Nat.add_zero, Nat.le_refl, reduceIte, 
    ne_eq, not_false_eq_true, and_self, true_and, and_true, reduceCtorEq, cond_true, cond_false, hlt', decide_true, hix, l00Letter_eq (X := X), hL, Bool.not_true, hw, ih', Bool.true_or, Bool.true_and]
    | false =>
      cases hD : digI (t[i].toNat : Nat) with
      | true => simp (config := {contextual := true, implicitDefEqProofs := false, maxSteps := 1000000}) only [
    ↓PR0, ↓PR1, ↓PR2, PO0, PO1, PO2, PO3, result, resOf, allSome, number, upd, List.map, Option.bind_some, Nat.reduceAdd, Nat.reduceSub, Nat.reduceLeDiff, Nat.reduceLT, Nat.reduceEqDiff, Nat.zero_add, Nat.add_zero, Nat.le_refl, reduceIte, 
    ne_eq, not_false_eq_true, and_self, true_and, and_true, reduceCtorEq, cond_true, cond_false, hlt', decide_true, hix, l00Letter_eq (X := X), l00Digit_eq (X := X), hL, hD, Bool.not_true, Bool.not_false, hw, ih', Bool.false_or, 
    Bool.true_and]
      | false => simp (config := {contextual := true, implicitDefEqProofs := false, maxSteps := 1000000}) only [
    ↓PR0, ↓PR1, ↓PR2, PO0, PO1, PO2, PO3, result, resOf, allSome, number, upd, List.map, Option.bind_some, Nat.reduceAdd, Nat.reduceSub, Nat.reduceLeDiff, Nat.reduceLT, Nat.reduceEqDiff, Nat.zero_add, Nat.add_zero, Nat.le_refl, reduceIte, 
    ne_eq, not_false_eq_true, and_self, true_and, and_true, reduceCtorEq, cond_true, cond_false, hlt', decide_true, hix, l00Letter_eq (X := X), l00Digit_eq (X := X), hL, hD, Bool.not_false, Bool.false_or, Bool.false_and]
theorem specNameOK_eq (t : List UInt8) (σ : Store) (ht : LenOk t.length) : EE X f_spec_NameOK [.str t] σ = some (.bool (nameOK t), σ) := by
  have ht' : t.length ≤ 9223372036854775807 := ht
  have key : EE X f_spec_l00Word [.str t] σ = some (.bool (nameOK t), σ) := by
    cases t with
    | nil =>
      have h1 : ((0 : Int) < 1) := by decide
      rw [EE, Ex_run C_spec_l00Word rfl]
      simp (config := {contextual := true, implicitDefEqProofs := false, maxSteps := 1000000}) only [
    ↓PR0, ↓PR1, ↓PR2, PO0, PO1, PO2, PO3, result, resOf, allSome, number, upd, List.map, Option.bind_some, Nat.reduceAdd, Nat.reduceSub, Nat.reduceLeDiff, Nat.reduceLT, Nat.reduceEqDiff, Nat.zero_add, Nat.add_zero, Nat.le_refl, reduceIte, 
    ne_eq, not_false_eq_true, and_self, true_and, and_true, reduceCtorEq, cond_true, cond_false, c_spec_l00Word, Int.cast_ofNat_Int, h1, decide_true, nameOK]
    | cons b r =>
      have h1 : ¬ (((r.length + 1 : Nat) : Int) < 1) := by omega
      by_cases h40 : 40 < (b :: r).length
      · have h2 : (40 : Int) < ((r.length + 1 : Nat) : Int) := by simp only [List.length_cons] at h40; omega
        have hn : nameOK (b :: r) = false := by
          have : decide ((b :: r).length ≤ 40) = false := by rw [decide_eq_false_iff_not]; omega
          simp only [nameOK, this, Bool.false_and]
        rw [hn, EE, Ex_run C_spec_l00Word rfl]
        simp (config := {contextual := true, implicitDefEqProofs := false, maxSteps := 1000000}) only [
    ↓PR0, ↓PR1, ↓PR2, PO0, PO1, PO2, PO3, result, resOf, allSome, number, upd, List.map, Option.bind_some, Nat.reduceAdd, Nat.reduceSub, Nat.reduceLeDiff, Nat.reduceLT, Nat.reduceEqDiff, Nat.zero_add, Nat.add_zero, Nat.le_refl, reduceIte, 
    ne_eq, not_false_eq_true, and_self, true_and, and_true, reduceCtorEq, cond_true, cond_false, c_spec_l00Word, h1, h2, decide_true, decide_false]
      · have h2 : ¬ ((40 : Int) < ((r.length + 1 : Nat) : Int)) := by simp only [List.length_cons] at h40; omega
        have hix : idxV (.str (b :: r)) (int 0) = some (.int .u8 (b.toNat : Nat)) := idx_nat (b :: r) (i := 0) (by simp)
        have hl := fun kk : Out → S → Option (AV × Store) => specWord_loop (X := X) (b :: r) σ (by omega) kk r.length 1 (by simp; omega)
        simp only [Int.cast_ofNat_Int, List.drop_succ_cons, List.drop_zero, List.length_cons] at hl
        have hd : decide ((b :: r).length ≤ 40) = true := by rw [decide_eq_true_eq]; omega
        simp only [nameOK, hd, Bool.true_and]
        rw [EE, Ex_run C_spec_l00Word rfl]
        cases hL : ltrI (b.toNat : Nat) with
        | false => simp (config := {contextual := true, implicitDefEqProofs := false, maxSteps := 1000000}) only [
    ↓PR0, ↓PR1, ↓PR2, PO0, PO1, PO2, PO3, result, resOf, allSome, number, upd, List.map, Option.bind_some, Nat.reduceAdd, Nat.reduceSub, Nat.reduceLeDiff, Nat.reduceLT, Nat.reduceEqDiff, Nat.zero_add, Nat.add_zero, Nat.le_refl, reduceIte, 
    ne_eq, not_false_eq_true, and_self, true_and, and_true, reduceCtorEq, cond_true, cond_false, c_spec_l00Word, h1, h2, decide_false, hix, l00Letter_eq (X := X), hL, Bool.not_false, Bool.false_and]
        | true =>
          simp (config := {contextual := true, implicitDefEqProofs := false, maxSteps := 1000000}) only [
    ↓PR0, ↓PR1, ↓PR2, PO0, PO1, PO2, PO3, result, resOf, allSome, number, upd, List.map, Option.bind_some, Nat.reduceAdd, Nat.reduceSub, Nat.reduceLeDiff, Nat.reduceLT, Nat.reduceEqDiff, Nat.zero_add, Nat.add_zero, Nat.le_refl, reduceIte, 
    ne_eq, not_false_eq_true, and_self, true_and, and_true, reduceCtorEq, cond_true, cond_false, c_spec_l00Word, h1, h2, decide_false, hix, l00Letter_eq (X := X), hL, Bool.not_true, hl, Bool.true_and]
          cases r.all ldB <;> rfl
  rw [EE, Ex_run C_spec_NameOK rfl]
  simp (config := {contextual := true, implicitDefEqProofs := false, maxSteps := 1000000}) only [
    ↓PR0, ↓PR1, ↓PR2, PO0, PO1, PO2, PO3, idxV_str, result, resOf, allSome, number, upd, List.map, Option.bind_some, Nat.reduceAdd, Nat.reduceSub, Nat.reduceLeDiff, Nat.reduceLT, Nat.reduceEqDiff, Nat.zero_add, Nat.add_zero, Nat.le_refl, 
    reduceIte, ne_eq, not_false_eq_true, and_self, true_and, and_true, reduceCtorEq, cond_true, cond_false, c_spec_NameOK, key]
end Go.X
