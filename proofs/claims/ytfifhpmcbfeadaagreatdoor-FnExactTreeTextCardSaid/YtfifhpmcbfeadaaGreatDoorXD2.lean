/- Numerals, by the reference. -/
import Derived.Test.YtfifhpmcbfeadaaGreatDoorXD1
import Derived.Test.YtfifhpmcbfeadaaGreatDoorXL1
import Derived.Test.YtfifhpmcbfeadaaGreatDoorXM1
set_option linter.unusedVariables false
set_option linter.unusedSimpArgs false
set_option maxRecDepth 20000
namespace Go.X
open Go Go.Lib
variable {X : Call}

theorem nDigits_le : ∀ (k u : Nat), 1 ≤ k → u < 10 ^ k → nDigits u ≤ k
  | 0, u, h, _ => by omega
  | k + 1, u, _, h => by
    by_cases h10 : u < 10
    · rw [nDigits_small h10]; omega
    · rw [nDigits_big h10]
      cases k with
      | zero => simp at h; omega
      | succ k =>
        have := nDigits_le (k + 1) (u / 10) (by omega) (by rw [Nat.pow_succ] at h; omega)
        omega
theorem dec_len {u : Nat} (h : u ≤ 18446744073709551615) : (decDigits u).length ≤ 20 := by
  rw [decDigits_length]
  exact nDigits_le 20 u (by omega) (by have : (10 : Nat) ^ 20 = 100000000000000000000 := rfl; omega)
theorem itoa_len {n : Int} (h : I64 n) : (itoa n).length ≤ 21 := by
  unfold I64 at h
  unfold itoa
  split
  · have := dec_len (u := n.natAbs) (by omega); simp only [List.length_cons]; omega
  · have := dec_len (u := n.toNat) (by omega); omega
theorem finK_pop0 {res : List XRes} {st : Store} {g : Regs} {bx : Boxes} {a : AV} (h : result (g, ⟨bx, st⟩) res = some a) (hb : below st.length a = true) : finK res true st .ret (g, ⟨bx, st⟩) = some (a, st) := by
  have := finK_pop (res := res) (st := st) (g := g) (bx := bx) (ext := []) (a := a) (by rw [List.append_nil]; exact h) hb
  rwa [List.append_nil] at this
theorem min_text : itoa (-9223372036854775808) = [45, 57, 50, 50, 51, 51, 55, 50, 48, 51, 54, 56, 53, 52, 55, 55, 53, 56, 48, 56] := by
  unfold itoa
  rw [if_pos (by decide)]
  have : (-9223372036854775808 : Int).natAbs = 9223372036854775808 := rfl
  rw [this]
  simp [decDigits]
theorem mdig_small {u : Nat} (h : u < 10) : mdig u = UInt8.ofNat (48 + u) := by unfold mdig; rw [Nat.mod_eq_of_lt h]
theorem digits_nat : ∀ (k u : Nat), u ≤ k → u ≤ 9223372036854775807 → ∀ σ, EE X f_spec_l00Digits [int u] σ = some (.str (decDigits u), σ) := by
  intro k
  induction k with
  | zero =>
    intro u hu _ σ
    have e : u = 0 := by omega
    subst e
    have hw : IntKind.i64.wrap (48 + ((0 : Nat) : Int)) = 48 := wrap64 (by omega) (by omega)
    have hu8 : IntKind.u8.wrap 48 = 48 := by simp [IntKind.wrap, IntKind.bits, IntKind.signed]
    have hel : ∀ bx, elsOf ⟨bx, σ ++ [⟨[[.int .u8 48]], 1, 0, .own⟩]⟩ 1 (.v (.sl σ.length 0 0 1)) = some [[.int .u8 48]] := fun bx => (SlAt.new σ [[.int .u8 48]] 1).els bx
    have hby : byteOfCell [.int .u8 48] = some 48 := rfl
    have h0 : (((0 : Nat) : Int) == -9223372036854775808) = false := rfl
    have h1 : ¬ ((0 : Nat) : Int) < 0 := by decide
    have h2 : ((0 : Nat) : Int) < 10 := by decide
    have e : decDigits 0 = [48] := by rw [decDigits_one (by decide)]; rfl
    rw [e, EE, Ex_run C_spec_l00Digits rfl]
    simp (config := {contextual := true, implicitDefEqProofs := false, maxSteps := 1000000}) only [
    ↓PR0, ↓PR1, ↓PR2, PO0, PO1, PO2, PO3, idxV_str, result, resOf, allSome, number, upd, List.map, Option.bind_some, Nat.reduceAdd, Nat.reduceSub, Nat.reduceLeDiff, Nat.reduceLT, Nat.reduceEqDiff, Nat.zero_add, Nat.add_zero, Nat.le_refl, 
    reduceIte, ne_eq, not_false_eq_true, and_self, true_and, and_true, reduceCtorEq, cond_true, cond_false, c_spec_l00Digits, h0, h1, h2, decide_true, decide_false, hw, hu8, List.replicate_succ, List.replicate_zero, List.set_cons_zero, hel, 
    hby]
    exact finK_pop (a := .str [48]) (by simp [result, allSome, resOf, evv, ev, lk, RV.av]) rfl
  | succ k ih =>
    intro u hu hb σ
    have h0 : ((u : Int) == -9223372036854775808) = false := by rw [beq_eq_false_iff_ne]; omega
    have h1 : ¬ (u : Int) < 0 := by omega
    by_cases h10 : u < 10
    · have h2 : (u : Int) < 10 := by omega
      have hw : IntKind.i64.wrap (48 + (u : Int)) = 48 + (u : Int) := wrap64 (by omega) (by omega)
      have hu8 : IntKind.u8.wrap (48 + (u : Int)) = 48 + (u : Int) := by simp [IntKind.wrap, IntKind.bits, IntKind.signed]; omega
      have hel : ∀ bx, elsOf ⟨bx, σ ++ [⟨[[.int .u8 (48 + (u : Int))]], 1, 0, .own⟩]⟩ 1 (.v (.sl σ.length 0 0 1)) = some [[.int .u8 (48 + (u : Int))]] := fun bx => (SlAt.new σ [[.int .u8 (48 + (u : Int))]] 1).els bx
      have hby : byteOfCell [.int .u8 (48 + (u : Int))] = some (UInt8.ofNat (48 + u)) := by
        simp only [byteOfCell]; congr 1
      rw [decDigits_one h10, EE, Ex_run C_spec_l00Digits rfl]
      simp (config := {contextual := true, implicitDefEqProofs := false, maxSteps := 1000000}) only [
    ↓PR0, ↓PR1, ↓PR2, PO0, PO1, PO2, PO3, idxV_str, result, resOf, allSome, number, upd, List.map, Option.bind_some, Nat.reduceAdd, Nat.reduceSub, Nat.reduceLeDiff, Nat.reduceLT, Nat.reduceEqDiff, Nat.zero_add, Nat.add_zero, Nat.le_refl, 
    reduceIte, ne_eq, not_false_eq_true, and_self, true_and, and_true, reduceCtorEq, cond_true, cond_false, c_spec_l00Digits, h0, h1, h2, decide_true, decide_false, hw, hu8, List.replicate_succ, List.replicate_zero, List.set_cons_zero, hel, 
    hby]
      exact finK_pop (a := .str [UInt8.ofNat (48 + u)]) (by simp [result, allSome, resOf, evv, ev, lk, RV.av]) rfl
    · have h2 : ¬ (u : Int) < 10 := by omega
      have h10' : (10 : Int) ≠ 0 := by decide
      have hrem : (u : Int).tmod 10 = ((u % 10 : Nat) : Int) := by rw [Int.tmod_eq_emod_of_nonneg (by omega)]; omega
      have hquo : IntKind.i64.wrap ((u : Int).tdiv 10) = ((u / 10 : Nat) : Int) := by rw [Int.tdiv_eq_ediv_of_nonneg (by omega), wrap64 (by omega) (by omega)]; omega
      have hw : IntKind.i64.wrap (48 + ((u % 10 : Nat) : Int)) = 48 + ((u % 10 : Nat) : Int) := wrap64 (by omega) (by omega)
      have hu8 : IntKind.u8.wrap (48 + ((u % 10 : Nat) : Int)) = 48 + ((u % 10 : Nat) : Int) := by simp [IntKind.wrap, IntKind.bits, IntKind.signed]; omega
      have hel : ∀ bx, elsOf ⟨bx, σ ++ [⟨[[.int .u8 (48 + ((u % 10 : Nat) : Int))]], 1, 0, .own⟩]⟩ 1 (.v (.sl σ.length 0 0 1)) = some [[.int .u8 (48 + ((u % 10 : Nat) : Int))]] := fun bx => (SlAt.new σ [[.int .u8 (48 + ((u % 10 : Nat) : Int))]] 1).els bx
      have hby : byteOfCell [.int .u8 (48 + ((u % 10 : Nat) : Int))] = some (UInt8.ofNat (48 + u % 10)) := by
        simp only [byteOfCell]; congr 1
      have ih' := ih (u / 10) (by omega) (by omega)
      have hcat : (decDigits (u / 10)).length + ([UInt8.ofNat (48 + u % 10)] : List UInt8).length ≤ 140737488355328 := by
        have := dec_len (u := u / 10) (by omega); simp only [List.length_cons, List.length_nil]; omega
      have e : decDigits u = decDigits (u / 10) ++ [UInt8.ofNat (48 + u % 10)] := by rw [decDigits, dif_neg h10]
      rw [e, EE, Ex_run C_spec_l00Digits rfl]
      simp (config := {contextual := true, implicitDefEqProofs := false, maxSteps := 1000000}) only [
    ↓PR0, ↓PR1, ↓PR2, PO0, PO1, PO2, PO3, idxV_str, result, resOf, allSome, number, upd, List.map, Option.bind_some, Nat.reduceAdd, Nat.reduceSub, Nat.reduceLeDiff, Nat.reduceLT, Nat.reduceEqDiff, Nat.zero_add, Nat.add_zero, Nat.le_refl, 
    reduceIte, ne_eq, not_false_eq_true, and_self, true_and, and_true, reduceCtorEq, cond_true, cond_false, c_spec_l00Digits, h0, h1, h2, decide_false, binV_rem _ _ _ h10', binV_quo _ _ _ h10', hrem, hquo, ih', hw, hu8, List.replicate_succ, 
    List.replicate_zero, List.set_cons_zero, hel, hby, binV_cat _ _ hcat]
      exact finK_pop (a := .str (decDigits (u / 10) ++ [UInt8.ofNat (48 + u % 10)])) (by simp [result, allSome, resOf, evv, ev, lk, RV.av]) rfl
theorem l00Digits_eq (n : Int) (hn : I64 n) (σ : Store) : EE X f_spec_l00Digits [int n] σ = some (.str (itoa n), σ) := by
  unfold I64 at hn
  by_cases hm : n = -9223372036854775808
  · subst hm
    rw [min_text, EE, Ex_run C_spec_l00Digits rfl]
    simp (config := {contextual := true, implicitDefEqProofs := false, maxSteps := 1000000}) only [
    ↓PR0, ↓PR1, ↓PR2, PO0, PO1, PO2, PO3, idxV_str, result, resOf, allSome, number, upd, List.map, Option.bind_some, Nat.reduceAdd, Nat.reduceSub, Nat.reduceLeDiff, Nat.reduceLT, Nat.reduceEqDiff, Nat.zero_add, Nat.add_zero, Nat.le_refl, 
    reduceIte, ne_eq, not_false_eq_true, and_self, true_and, and_true, reduceCtorEq, cond_true, cond_false, c_spec_l00Digits, beq_self_eq_true]
    exact finK_pop0 (by simp [result, allSome, resOf, evv, ev, lk, RV.av]) rfl
  · by_cases h0 : n < 0
    · obtain ⟨u, rfl⟩ : ∃ u : Nat, n = -(u : Int) := ⟨n.natAbs, by omega⟩
      have h1 : ((-(u : Int)) == -9223372036854775808) = false := by rw [beq_eq_false_iff_ne]; exact hm
      have hw : IntKind.i64.wrap (0 - -(u : Int)) = (u : Int) := by rw [wrap64 (by omega) (by omega)]; omega
      have hd := digits_nat (X := X) u u (Nat.le_refl _) (by omega) σ
      have hcat : ([45] : List UInt8).length + (decDigits u).length ≤ 140737488355328 := by
        have := dec_len (u := u) (by omega); simp only [List.length_cons, List.length_nil]; omega
      rw [itoa_neg u (by omega), EE, Ex_run C_spec_l00Digits rfl]
      simp (config := {contextual := true, implicitDefEqProofs := false, maxSteps := 1000000}) only [
    ↓PR0, ↓PR1, ↓PR2, PO0, PO1, PO2, PO3, idxV_str, result, resOf, allSome, number, upd, List.map, Option.bind_some, Nat.reduceAdd, Nat.reduceSub, Nat.reduceLeDiff, Nat.reduceLT, Nat.reduceEqDiff, Nat.zero_add, Nat.add_zero, Nat.le_refl, 
    reduceIte, ne_eq, not_false_eq_true, and_self, true_and, and_true, reduceCtorEq, cond_true, cond_false, c_spec_l00Digits, h1, h0, decide_true, hw, hd, binV_cat _ _ hcat]
      exact finK_pop0 (by simp [result, allSome, resOf, evv, ev, lk, RV.av]) rfl
    · obtain ⟨u, rfl⟩ := Int.eq_ofNat_of_zero_le (Int.not_lt.1 h0)
      rw [itoa_nonneg]
      exact digits_nat u u (Nat.le_refl _) (by omega) σ

/-! ### Numbers that are read -/

theorem digI_D (b : UInt8) : isD b = !(decide (((b.toNat : Nat) : Int) < 48) || decide ((57 : Int) < ((b.toNat : Nat) : Int))) := by
  rw [Bool.eq_iff_iff]
  simp only [isD, Bool.and_eq_true, decide_eq_true_eq, Bool.not_eq_true', Bool.or_eq_false_iff, decide_eq_false_iff_not]
  omega
def numV (t : List UInt8) : Int × Bool := match numM t with | some v => (v, true) | none => (0, false)
theorem b48i (a : UInt8) : ((((a.toNat : Nat) : Int)) == 48) = (a == 48) := by
  rw [Bool.eq_iff_iff]; simp only [beq_iff_eq]
  constructor
  · intro h; apply UInt8.toNat_inj.1; have : a.toNat = 48 := by omega
    rw [this]; rfl
  · intro h; subst h; rfl
theorem b45i (a : UInt8) : ((((a.toNat : Nat) : Int)) == 45) = (a == 45) := by
  rw [Bool.eq_iff_iff]; simp only [beq_iff_eq]
  constructor
  · intro h; apply UInt8.toNat_inj.1; have : a.toNat = 45 := by omega
    rw [this]; rfl
  · intro h; subst h; rfl
theorem numV_bad {t : List UInt8} (h : tailN t = [] ∨ 18 < (tailN t).length ∨ ((tailN t).head? = some 48 ∧ (1 < (tailN t).length ∨ t.head? = some 45))) : numV t = (0, false) := by
  simp only [numV, numM, if_pos h]
theorem numV_good {t : List UInt8} (h : ¬ (tailN t = [] ∨ 18 < (tailN t).length ∨ ((tailN t).head? = some 48 ∧ (1 < (tailN t).length ∨ t.head? = some 45)))) : numV t = match decFrom 0 (tailN t) with | some n => (if t.head? = some 45 then -(n : Int) else (n : Int), true) | none => (0, false) := by
  simp only [numV, numM, if_neg h]
  cases decFrom 0 (tailN t) <;> rfl
end Go.X
