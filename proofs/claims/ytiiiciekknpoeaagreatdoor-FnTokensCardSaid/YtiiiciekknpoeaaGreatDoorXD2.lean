/- Numerals, by the reference. -/
import Derived.Test.YtiiiciekknpoeaaGreatDoorXD1
import Derived.Test.YtiiiciekknpoeaaGreatDoorXL1
import Derived.Test.YtiiiciekknpoeaaGreatDoorXM1
set_option linter.unusedVariables false
set_option linter.unusedSimpArgs false
set_option maxRecDepth 20000
namespace Go.X
open Go Go.Lib
variable {X : Call}

theorem nDigits_le : ∀ (k u : Nat), 1 ≤ k → u < 10 ^ k → nDigits u ≤ k
  | 0, u, h, _ => by omega
  | k + 1, u, _, h => by
    by_cases h10 : u < 10
    · rw [nDigits_small h10]; omega
    · rw [nDigits_big h10]
      cases k with
      | zero => simp at h; omega
      | succ k =>
        have := nDigits_le (k + 1) (u / 10) (by omega) (by rw [Nat.pow_succ] at h; omega)
        omega
theorem dec_len {u : Nat} (h : u ≤ 18446744073709551615) : (decDigits u).length ≤ 20 := by
  rw [decDigits_length]
  exact nDigits_le 20 u (by omega) (by have : (10 : Nat) ^ 20 = 100000000000000000000 := rfl; omega)
theorem itoa_len {n : Int} (h : I64 n) : (itoa n).length ≤ 21 := by
  unfold I64 at h
  unfold itoa
  split
  · have := dec_len (u := n.natAbs) (by omega); simp only [List.length_cons]; omega
  · have := dec_len (u := n.toNat) (by omega); omega
theorem finK_pop0 {res : List XRes} {st : Store} {g : Regs} {bx : Boxes} {a : AV} (h : result (g, ⟨bx, st⟩) res = some a) (hb : below st.length a = true) : finK res true st .ret (g, ⟨bx, st⟩) = some (a, st) := by
  have := finK_pop (res := res) (st := st) (g := g) (bx := bx) (ext := []) (a := a) (by rw [List.append_nil]; exact h) hb
  rwa [List.append_nil] at this
theorem min_text : itoa (-9223372036854775808) = [45, 57, 50, 50, 51, 51, 55, 50, 48, 51, 54, 56, 53, 52, 55, 55, 53, 56, 48, 56] := by
  unfold itoa
  rw [if_pos (by decide)]
  have : (-9223372036854775808 : Int).natAbs = 9223372036854775808 := rfl
  rw [this]
  simp [decDigits]
theorem mdig_small {u : Nat} (h : u < 10) : mdig u = UInt8.ofNat (48 + u) := by unfold mdig; rw [Nat.mod_eq_of_lt h]
theorem digits_nat : ∀ (k u : Nat), u ≤ k → u ≤ 9223372036854775807 → ∀ σ, EE X f_spec_l00Digits [int u] σ = some (.str (decDigits u), σ) := by
  intro k
  induction k with
  | zero =>
    intro u hu _ σ
    have e : u = 0 := by omega
    subst e
    have hw : IntKind.i64.wrap (48 + ((0 : Nat) : Int)) = 48 := wrap64 (by omega) (by omega)
    have hu8 : IntKind.u8.wrap 48 = 48 := by simp [IntKind.wrap, IntKind.bits, IntKind.signed]
    have hel : ∀ bx, elsOf ⟨bx, σ ++ [⟨[[.int .u8 48]], 1, 0, .own⟩]⟩ 1 (.v (.sl σ.length 0 0 1)) = some [[.int .u8 48]] := fun bx => (SlAt.new σ [[.int .u8 48]] 1).els bx
    have hby : byteOfCell [.int .u8 48] = some 48 := rfl
    have h0 : (((0 : Nat) : Int) == -9223372036854775808) = false := rfl
    have h1 : ¬ ((0 : Nat) : Int) < 0 := by decide
    have h2 : ((0 : Nat) : Int) < 10 := by decide
    have e : decDigits 0 = [48] := by rw [decDigits_one (by decide)]; rfl
    rw [e, EE, Ex_run C_spec_l00Digits rfl]
    simp (config := {contextual := true, implicitDefEqProofs := false, maxSteps := 1000000}) only [
    ↓PR0, ↓PR1, ↓PR2, PO0, PO1, PO2, PO3, idxV_str, result, resOf, allSome, number, upd, List.map, Option.bind_some, Nat.reduceAdd, Nat.reduceSub, Nat.reduceLeDiff, Nat.reduceLT, Nat.reduceEqDiff, Nat.zero_add, Nat.add_zero, Nat.le_refl, 
    reduceIte, ne_eq, not_false_eq_true, and_self, true_and, and_true, reduceCtorEq, cond_true, cond_false, c_spec_l00Digits, h0, h1, h2, decide_true, decide_false, hw, hu8, List.replicate_succ, List.replicate_zero, List.set_cons_zero, hel, 
    hby]
    exact finK_pop (a := .str [48]) (by simp [result, allSome, resOf, evv, ev, lk, RV.av]) rfl
  | succ k ih =>
    intro u hu hb σ
    have h0 : ((u : Int) == -9223372036854775808) = false := by rw [beq_eq_false_iff_ne]; omega
    have h1 : ¬ (u : Int) < 0 := by omega
    by_cases h10 : u < 10
    · have h2 : (u : Int) < 10 := by omega
      have hw : IntKind.i64.wrap (48 + (u : Int)) = 48 + (u : Int) := wrap64 (by omega) (by omega)
      have hu8 : IntKind.u8.wrap (48 + (u : Int)) = 48 + (u : Int) := by simp [IntKind.wrap, IntKind.bits, IntKind.signed]; omega
      have hel : ∀ bx, elsOf ⟨bx, σ ++ [⟨[[.int .u8 (48 + (u : Int))]], 1, 0, .own⟩]⟩ 1 (.v (.sl σ.length 0 0 1)) = some [[.int .u8 (48 + (u : Int))]] := fun bx => (SlAt.new σ [[.int .u8 (48 + (u : Int))]] 1).els bx
      have hby : byteOfCell [.int .u8 (48 + (u : Int))] = some (UInt8.ofNat (48 + u)) := by
        simp only [byteOfCell]; congr 1
      rw [decDigits_one h10, EE, Ex_run C_spec_l00Digits rfl]
      simp (config := {contextual := true, implicitDefEqProofs := false, maxSteps := 1000000}) only [
    ↓PR0, ↓PR1, ↓PR2, PO0, PO1, PO2, PO3, idxV_str, result, resOf, allSome, number, upd, List.map, Option.bind_some, Nat.reduceAdd, Nat.reduceSub, Nat.reduceLeDiff, Nat.reduceLT, Nat.reduceEqDiff, Nat.zero_add, Nat.add_zero, Nat.le_refl, 
    reduceIte, ne_eq, not_false_eq_true, and_self, true_and, and_true, reduceCtorEq, cond_true, cond_false, c_spec_l00Digits, h0, h1, h2, decide_true, decide_false, hw, hu8, List.replicate_succ, List.replicate_zero, List.set_cons_zero, hel, 
    hby]
      exact finK_pop (a := .str [UInt8.ofNat (48 + u)]) (by simp [result, allSome, resOf, evv, ev, lk, RV.av]) rfl
    · have h2 : ¬ (u : Int) < 10 := by omega
      have h10' : (10 : Int) ≠ 0 := by decide
      have hrem : (u : Int).tmod 10 = ((u % 10 : Nat) : Int) := by rw [Int.tmod_eq_emod_of_nonneg (by omega)]; omega
      have hquo : IntKind.i64.wrap ((u : Int).tdiv 10) = ((u / 10 : Nat) : Int) := by rw [Int.tdiv_eq_ediv_of_nonneg (by omega), wrap64 (by omega) (by omega)]; omega
      have hw : IntKind.i64.wrap (48 + ((u % 10 : Nat) : Int)) = 48 + ((u % 10 : Nat) : Int) := wrap64 (by omega) (by omega)
      have hu8 : IntKind.u8.wrap (48 + ((u % 10 : Nat) : Int)) = 48 + ((u % 10 : Nat) : Int) := by simp [IntKind.wrap, IntKind.bits, IntKind.signed]; omega
      have hel : ∀ bx, elsOf ⟨bx, σ ++ [⟨[[.int .u8 (48 + ((u % 10 : Nat) : Int))]], 1, 0, .own⟩]⟩ 1 (.v (.sl σ.length 0 0 1)) = some [[.int .u8 (48 + ((u % 10 : Nat) : Int))]] := fun bx => (SlAt.new σ [[.int .u8 (48 + ((u % 10 : Nat) : Int))]] 1).els bx
      have hby : byteOfCell [.int .u8 (48 + ((u % 10 : Nat) : Int))] = some (UInt8.ofNat (48 + u % 10)) := by
        simp only [byteOfCell]; congr 1
      have ih' := ih (u / 10) (by omega) (by omega)
      have hcat : (decDigits (u / 10)).length + ([UInt8.ofNat (48 + u % 10)] : List UInt8).length ≤ 140737488355328 := by
        have := dec_len (u := u / 10) (by omega); simp only [List.length_cons, List.length_nil]; omega
      have e : decDigits u = decDigits (u / 10) ++ [UInt8.ofNat (48 + u % 10)] := by rw [decDigits, dif_neg h10]
      rw [e, EE, Ex_run C_spec_l00Digits rfl]
      simp (config := {contextual := true, implicitDefEqProofs := false, maxSteps := 1000000}) only [
    ↓PR0, ↓PR1, ↓PR2, PO0, PO1, PO2, PO3, idxV_str, result, resOf, allSome, number, upd, List.map, Option.bind_some, Nat.reduceAdd, Nat.reduceSub, Nat.reduceLeDiff, Nat.reduceLT, Nat.reduceEqDiff, Nat.zero_add, Nat.add_zero, Nat.le_refl, 
    reduceIte, ne_eq, not_false_eq_true, and_self, true_and, and_true, reduceCtorEq, cond_true, cond_false, c_spec_l00Digits, h0, h1, h2, decide_false, binV_rem _ _ _ h10', binV_quo _ _ _ h10', hrem, hquo, ih', hw, hu8, List.replicate_succ, 
    List.replicate_zero, List.set_cons_zero, hel, hby, binV_cat _ _ hcat]
      exact finK_pop (a := .str (decDigits (u / 10) ++ [UInt8.ofNat (48 + u % 10)])) (by simp [result, allSome, resOf, evv, ev, lk, RV.av]) rfl
theorem l00Digits_eq (n : Int) (hn : I64 n) (σ : Store) : EE X f_spec_l00Digits [int n] σ = some (.str (itoa n), σ) := by
  unfold I64 at hn
  by_cases hm : n = -9223372036854775808
  · subst hm
    rw [min_text, EE, Ex_run C_spec_l00Digits rfl]
    simp (config := {contextual := true, implicitDefEqProofs := false, maxSteps := 1000000}) only [
    ↓PR0, ↓PR1, ↓PR2, PO0, PO1, PO2, PO3, idxV_str, result, resOf, allSome, number, upd, List.map, Option.bind_some, Nat.reduceAdd, Nat.reduceSub, Nat.reduceLeDiff, Nat.reduceLT, Nat.reduceEqDiff, Nat.zero_add, Nat.add_zero, Nat.le_refl, 
    reduceIte, ne_eq, not_false_eq_true, and_self, true_and, and_true, reduceCtorEq, cond_true, cond_false, c_spec_l00Digits, beq_self_eq_true]
    exact finK_pop0 (by simp [result, allSome, resOf, evv, ev, lk, RV.av]) rfl
  · by_cases h0 : n < 0
    · obtain ⟨u, rfl⟩ : ∃ u : Nat, n = -(u : Int) := ⟨n.natAbs, by omega⟩
      have h1 : ((-(u : Int)) == -9223372036854775808) = false := by rw [beq_eq_false_iff_ne]; exact hm
      have hw : IntKind.i64.wrap (0 - -(u : Int)) = (u : Int) := by rw [wrap64 (by omega) (by omega)]; omega
      have hd := digits_nat (X := X) u u (Nat.le_refl _) (by omega) σ
      have hcat : ([45] : List UInt8).length + (decDigits u).length ≤ 140737488355328 := by
        have := dec_len (u := u) (by omega); simp only [List.length_cons, List.length_nil]; omega
      rw [itoa_neg u (by omega), EE, Ex_run C_spec_l00Digits rfl]
      simp (config := {contextual := true, implicitDefEqProofs := false, maxSteps := 1000000}) only [
    ↓PR0, ↓PR1, ↓PR2, PO0, PO1, PO2, PO3, idxV_str, result, resOf, allSome, number, upd, List.map, Option.bind_some, Nat.reduceAdd, Nat.reduceSub, Nat.reduceLeDiff, Nat.reduceLT, Nat.reduceEqDiff, Nat.zero_add, Nat.add_zero, Nat.le_refl, 
    reduceIte, ne_eq, not_false_eq_true, and_self, true_and, and_true, reduceCtorEq, cond_true, cond_false, c_spec_l00Digits, h1, h0, decide_true, hw, hd, binV_cat _ _ hcat]
      exact finK_pop0 (by simp [result, allSome, resOf, evv, ev, lk, RV.av]) rfl
    · obtain ⟨u, rfl⟩ := Int.eq_ofNat_of_zero_le (Int.not_lt.1 h0)
      rw [itoa_nonneg]
      exact digits_nat u u (Nat.le_refl _) (by omega) σ

/-! ### Numbers that are read -/

theorem digI_D (b : UInt8) : isD b = !(decide (((b.toNat : Nat) : Int) < 48) || decide ((57 : Int) < ((b.toNat : Nat) : Int))) := by
  rw [Bool.eq_iff_iff]
  simp only [isD, Bool.and_eq_true, decide_eq_true_eq, Bool.not_eq_true', Bool.or_eq_false_iff, decide_eq_false_iff_not]
  omega
theorem l00Number_loop {R : Type} (r : List UInt8) (sg : Int) (hr : r.length ≤ 18) (σ : Store) (kk : Out → S → Option R) : ∀ d i n, i + d = r.length → n < 10 ^ i →
    loopK (EE X) [0, 4, 5, 6] l_spec_l00Number_0 ([(0, .v (.str r)), (4, .v (int sg)), (5, .v (int (n : Nat))), (6, .v (int i))], ⟨[], σ⟩) kk =
      match decFrom n (r.drop i) with
      | some m => kk (.exit 0) ([(0, .v (.str r)), (4, .v (int sg)), (5, .v (int (m : Nat))), (6, .v (int r.length)), (42, .v (.bool false))], ⟨[], σ⟩)
      | none => kk .ret ([(2, .v (int 0)), (3, .v (.bool false))], ⟨[], σ⟩) := by
  intro d
  induction d with
  | zero =>
    intro i n hi hn
    have e : i = r.length := by omega
    subst e
    rw [List.drop_length]
    simp only [decFrom]
    rw [loopK_step l_spec_l00Number_0.eq_1]
    simp (config := {contextual := true, implicitDefEqProofs := false, maxSteps := 1000000}) only [
    ↓PR0, ↓PR1, ↓PR2, PO0, PO1, PO2, PO3, idxV_str, result, resOf, allSome, number, upd, List.map, Option.bind_some, Nat.reduceAdd, Nat.reduceSub, Nat.reduceLeDiff, Nat.reduceLT, Nat.reduceEqDiff, Nat.zero_add, Nat.add_zero, Nat.le_refl, 
    reduceIte, ne_eq, not_false_eq_true, and_self, true_and, and_true, reduceCtorEq, cond_true, cond_false, Int.lt_irrefl, decide_false]
  | succ d ih =>
    intro i n hi hn
    have hlt : i < r.length := by omega
    have hlt' : (i : Int) < (r.length : Int) := by omega
    have hwi : IntKind.i64.wrap ((i : Int) + 1) = ((i + 1 : Nat) : Int) := wrap64 (by omega) (by omega)
    have hix := idx_nat r hlt
    have hb256 : r[i].toNat < 256 := UInt8.toNat_lt _
    have hn17 : n < 10 ^ 17 := Nat.lt_of_lt_of_le hn (Nat.pow_le_pow_right (by decide) (by omega))
    have e17 : (10 : Nat) ^ 17 = 100000000000000000 := rfl
    have hc : IntKind.i64.wrap ((r[i].toNat : Nat) : Int) = (r[i].toNat : Nat) := wrap64 (by omega) (by omega)
    have w1 : IntKind.i64.wrap ((n : Int) * 10) = (n : Int) * 10 := wrap64 (by omega) (by omega)
    have w2 : IntKind.i64.wrap ((n : Int) * 10 + (r[i].toNat : Nat)) = (n : Int) * 10 + (r[i].toNat : Nat) := wrap64 (by omega) (by omega)
    rw [List.drop_eq_getElem_cons hlt]
    simp only [decFrom]
    cases hd : isD r[i] with
    | false =>
      rw [digitVal_none hd]
      simp only
      rw [digI_D] at hd
      rw [loopK_step l_spec_l00Number_0.eq_1]
      cases h1 : decide (((r[i].toNat : Nat) : Int) < 48) with
      | true => simp (config := {contextual := true, implicitDefEqProofs := false, maxSteps := 1000000}) only [
    ↓PR0, ↓PR1, ↓PR2, PO0, PO1, PO2, PO3, result, resOf, allSome, number, upd, List.map, Option.bind_some, Nat.reduceAdd, Nat.reduceSub, Nat.reduceLeDiff, Nat.reduceLT, Nat.reduceEqDiff, Nat.zero_add, Nat.add_zero, Nat.le_refl, reduceIte, 
    ne_eq, not_false_eq_true, and_self, true_and, and_true, reduceCtorEq, cond_true, cond_false, hlt', decide_true, hix, h1]
      | false =>
        rw [h1, Bool.false_or] at hd
        have h2 : decide ((57 : Int) < ((r[i].toNat : Nat) : Int)) = true := by simpa using hd
        simp (config := {contextual := true, implicitDefEqProofs := false, maxSteps := 1000000}) only [
    ↓PR0, ↓PR1, ↓PR2, PO0, PO1, PO2, PO3, result, resOf, allSome, number, upd, List.map, Option.bind_some, Nat.reduceAdd, Nat.reduceSub, Nat.reduceLeDiff, Nat.reduceLT, Nat.reduceEqDiff, Nat.zero_add, Nat.add_zero, Nat.le_refl, reduceIte, 
    ne_eq, not_false_eq_true, and_self, true_and, and_true, reduceCtorEq, cond_true, cond_false, hlt', decide_true, hix, h1, h2]
    | true =>
      have hd2 := hd
      rw [digitVal_some hd]
      simp only
      rw [digI_D] at hd
      simp only [Bool.not_eq_true', Bool.or_eq_false_iff] at hd
      obtain ⟨h1, h2⟩ := hd
      simp only [isD, Bool.and_eq_true, decide_eq_true_eq] at hd2
      have w3 : IntKind.i64.wrap ((n : Int) * 10 + (r[i].toNat : Nat) - 48) = ((n * 10 + (r[i].toNat - 48) : Nat) : Int) := by rw [wrap64 (by omega) (by omega)]; omega
      have ih' := ih (i + 1) (n * 10 + (r[i].toNat - 48)) (by omega) (by rw [Nat.pow_succ]; omega)
      rw [← ih', loopK_step l_spec_l00Number_0.eq_1]
      simp (config := {contextual := true, implicitDefEqProofs := false, maxSteps := 1000000}) only [
    ↓PR0, ↓PR1, ↓PR2, PO0, PO1, PO2, PO3, result, resOf, allSome, number, upd, List.map, Option.bind_some, Nat.reduceAdd, Nat.reduceSub, Nat.reduceLeDiff, Nat.reduceLT, Nat.reduceEqDiff, Nat.zero_add, Nat.add_zero, Nat.le_refl, reduceIte, 
    ne_eq, not_false_eq_true, and_self, true_and, and_true, reduceCtorEq, cond_true, cond_false, hlt', decide_true, hix, h1, h2, hc, w1, w2, w3, hwi]
def numV (t : List UInt8) : Int × Bool := match numM t with | some v => (v, true) | none => (0, false)
theorem b48i (a : UInt8) : ((((a.toNat : Nat) : Int)) == 48) = (a == 48) := by
  rw [Bool.eq_iff_iff]; simp only [beq_iff_eq]
  constructor
  · intro h; apply UInt8.toNat_inj.1; have : a.toNat = 48 := by omega
    rw [this]; rfl
  · intro h; subst h; rfl
theorem b45i (a : UInt8) : ((((a.toNat : Nat) : Int)) == 45) = (a == 45) := by
  rw [Bool.eq_iff_iff]; simp only [beq_iff_eq]
  constructor
  · intro h; apply UInt8.toNat_inj.1; have : a.toNat = 45 := by omega
    rw [this]; rfl
  · intro h; subst h; rfl
theorem numV_bad {t : List UInt8} (h : tailN t = [] ∨ 18 < (tailN t).length ∨ ((tailN t).head? = some 48 ∧ (1 < (tailN t).length ∨ t.head? = some 45))) : numV t = (0, false) := by
  simp only [numV, numM, if_pos h]
theorem numV_good {t : List UInt8} (h : ¬ (tailN t = [] ∨ 18 < (tailN t).length ∨ ((tailN t).head? = some 48 ∧ (1 < (tailN t).length ∨ t.head? = some 45)))) : numV t = match decFrom 0 (tailN t) with | some n => (if t.head? = some 45 then -(n : Int) else (n : Int), true) | none => (0, false) := by
  simp only [numV, numM, if_neg h]
  cases decFrom 0 (tailN t) <;> rfl
theorem l00Number_eq (t : List UInt8) (ht : LenOk t.length) (σ : Store) : EE X f_spec_l00Number [.str t] σ = some (.tup [int (numV t).1, .bool (numV t).2], σ) := by
  have ht' : t.length ≤ 9223372036854775807 := ht
  have i00 : ¬ ((0 : Int) < ((0 : Nat) : Int)) := by decide
  cases t with
  | nil =>
    have e00 : (((0 : Nat) : Int) == 0) = true := rfl
    rw [numV_bad (.inl rfl), EE, Ex_run C_spec_l00Number rfl]
    simp (config := {contextual := true, implicitDefEqProofs := false, maxSteps := 1000000}) only [
    ↓PR0, ↓PR1, ↓PR2, PO0, PO1, PO2, PO3, result, resOf, allSome, number, upd, List.map, Option.bind_some, Nat.reduceAdd, Nat.reduceSub, Nat.reduceLeDiff, Nat.reduceLT, Nat.reduceEqDiff, Nat.zero_add, Nat.add_zero, Nat.le_refl, reduceIte, 
    ne_eq, not_false_eq_true, and_self, true_and, and_true, reduceCtorEq, cond_true, cond_false, c_spec_l00Number, i00, decide_false, e00]
  | cons c r =>
    have hc0 : (0 : Int) < ((r.length + 1 : Nat) : Int) := by omega
    have ixc : idxV (.str (c :: r)) (int 0) = some (.int .u8 (c.toNat : Nat)) := idx_nat (c :: r) (i := 0) (by simp)
    -- what stands behind the sign
    have rest : ∀ (a : UInt8) (r' : List UInt8), idxV (.str (a :: r')) (int 0) = some (.int .u8 (a.toNat : Nat)) := fun a r' => idx_nat (a :: r') (i := 0) (by simp)
    cases h45 : c == 45 with
    | true =>
      have hc : c = 45 := by simpa using h45
      subst hc
      have htl : tailN (45 :: r) = r := by simp [tailN]
      have hs1 : (0 : Int) ≤ 1 ∧ (1 : Int) ≤ ((r.length + 1 : Nat) : Int) ∧ ((r.length + 1 : Nat) : Int) ≤ ((r.length + 1 : Nat) : Int) := by omega
      have hs2 : List.take ((((r.length + 1 : Nat) : Int)).toNat - (1 : Int).toNat) (List.drop (1 : Int).toNat (45 :: r)) = r := by
        have e1 : (1 : Int).toNat = 1 := rfl
        rw [e1, List.drop_succ_cons, List.drop_zero, Int.toNat_natCast, List.take_of_length_le (by omega)]
      cases r with
      | nil =>
        have e00 : (((0 : Nat) : Int) == 0) = true := rfl
        rw [numV_bad (.inl htl), EE, Ex_run C_spec_l00Number rfl]
        simp only [List.length_nil] at hs1 hs2 hc0
        simp (config := {contextual := true, implicitDefEqProofs := false, maxSteps := 1000000}) only [
    ↓PR0, ↓PR1, ↓PR2, PO0, PO1, PO2, PO3, result, resOf, allSome, number, upd, List.map, Option.bind_some, Nat.reduceAdd, Nat.reduceSub, Nat.reduceLeDiff, Nat.reduceLT, Nat.reduceEqDiff, Nat.zero_add, Nat.add_zero, Nat.le_refl, reduceIte, 
    ne_eq, not_false_eq_true, and_self, true_and, and_true, reduceCtorEq, cond_true, cond_false, c_spec_l00Number, hc0, decide_true, ixc, b45i, h45, hs1, hs2, e00]
      | cons a r' =>
        have e0 : (((r'.length + 1 : Nat) : Int) == 0) = false := by rw [beq_eq_false_iff_ne]; omega
        have ixa := rest a r'
        by_cases h18 : 18 < r'.length + 1
        · have h18' : (18 : Int) < ((r'.length + 1 : Nat) : Int) := by omega
          rw [numV_bad (.inr (.inl (by rw [htl]; simpa using h18))), EE, Ex_run C_spec_l00Number rfl]
          simp only [List.length_cons] at hs1 hs2 hc0
          simp (config := {contextual := true, implicitDefEqProofs := false, maxSteps := 1000000}) only [
    ↓PR0, ↓PR1, ↓PR2, PO0, PO1, PO2, PO3, result, resOf, allSome, number, upd, List.map, Option.bind_some, Nat.reduceAdd, Nat.reduceSub, Nat.reduceLeDiff, Nat.reduceLT, Nat.reduceEqDiff, Nat.zero_add, Nat.add_zero, Nat.le_refl, reduceIte, 
    ne_eq, not_false_eq_true, and_self, true_and, and_true, reduceCtorEq, cond_true, cond_false, c_spec_l00Number, hc0, decide_true, ixc, b45i, h45, hs1, hs2, e0, h18']
        · have h18' : ¬ (18 : Int) < ((r'.length + 1 : Nat) : Int) := by omega
          have hneg : ((-1 : Int) < 0) := by decide
          cases h48 : a == 48 with
          | true =>
            have ha : a = 48 := by simpa using h48
            rw [numV_bad (.inr (.inr ⟨by rw [htl, ha]; rfl, .inr rfl⟩)), EE, Ex_run C_spec_l00Number rfl]
            simp only [List.length_cons] at hs1 hs2 hc0
            simp (config := {contextual := true, implicitDefEqProofs := false, maxSteps := 1000000}) only [
    ↓PR0, ↓PR1, ↓PR2, PO0, PO1, PO2, PO3, result, resOf, allSome, number, upd, List.map, Option.bind_some, Nat.reduceAdd, Nat.reduceSub, Nat.reduceLeDiff, Nat.reduceLT, Nat.reduceEqDiff, Nat.zero_add, Nat.add_zero, Nat.le_refl, reduceIte, 
    ne_eq, not_false_eq_true, and_self, true_and, and_true, reduceCtorEq, cond_true, cond_false, c_spec_l00Number, hc0, decide_true, decide_false, ixc, b45i, h45, hs1, hs2, e0, h18', ixa, b48i, h48, hneg, br_self]
          | false =>
            have ha : a ≠ 48 := by simpa using h48
            have hl := fun kk => l00Number_loop (X := X) (R := AV × Store) (a :: r') (-1) (by simpa using h18) σ kk (a :: r').length 0 0 (by omega) (by decide)
            simp only [Int.cast_ofNat_Int, List.drop_zero, List.length_cons] at hl
            have hg := numV_good (t := 45 :: a :: r') (by rw [htl]; simp only [not_or, not_and]; exact ⟨by simp, by simpa using h18, fun h => by simp at h; exact (ha h).elim⟩)
            rw [htl] at hg
            rw [hg, EE, Ex_run C_spec_l00Number rfl]
            simp only [List.length_cons] at hs1 hs2 hc0
            cases hd : decFrom 0 (a :: r') with
            | none =>
              simp only [hd] at hl
              simp (config := {contextual := true, implicitDefEqProofs := false, maxSteps := 1000000}) only [
    ↓PR0, ↓PR1, ↓PR2, PO0, PO1, PO2, PO3, result, resOf, allSome, number, upd, List.map, Option.bind_some, Nat.reduceAdd, Nat.reduceSub, Nat.reduceLeDiff, Nat.reduceLT, Nat.reduceEqDiff, Nat.zero_add, Nat.add_zero, Nat.le_refl, reduceIte, 
    ne_eq, not_false_eq_true, and_self, true_and, and_true, reduceCtorEq, cond_true, cond_false, c_spec_l00Number, hc0, decide_true, decide_false, ixc, b45i, h45, hs1, hs2, e0, h18', ixa, b48i, h48, hl]
            | some n =>
              simp only [hd] at hl
              have hlt := dec_lt18 (l := a :: r') (by simpa using h18) hd
              have e18 : (10 : Nat) ^ 18 = 1000000000000000000 := rfl
              have hw : IntKind.i64.wrap (-1 * (n : Int)) = -(n : Int) := by rw [wrap64 (by omega) (by omega)]; omega
              simp (config := {contextual := true, implicitDefEqProofs := false, maxSteps := 1000000}) only [
    ↓PR0, ↓PR1, ↓PR2, PO0, PO1, PO2, PO3, result, resOf, allSome, number, upd, List.map, Option.bind_some, Nat.reduceAdd, Nat.reduceSub, Nat.reduceLeDiff, Nat.reduceLT, Nat.reduceEqDiff, Nat.zero_add, Nat.add_zero, Nat.le_refl, reduceIte, 
    ne_eq, not_false_eq_true, and_self, true_and, and_true, reduceCtorEq, cond_true, cond_false, c_spec_l00Number, hc0, decide_true, decide_false, ixc, b45i, h45, hs1, hs2, e0, h18', ixa, b48i, h48, hl, hw]
              rfl
    | false =>
      have hc : c ≠ 45 := by simpa using h45
      have htl : tailN (c :: r) = c :: r := by simp [tailN, hc]
      have hhd : (c :: r).head? ≠ some 45 := by simp [hc]
      have e0 : (((r.length + 1 : Nat) : Int) == 0) = false := by rw [beq_eq_false_iff_ne]; omega
      by_cases h18 : 18 < r.length + 1
      · have h18' : (18 : Int) < ((r.length + 1 : Nat) : Int) := by omega
        rw [numV_bad (.inr (.inl (by rw [htl]; simpa using h18))), EE, Ex_run C_spec_l00Number rfl]
        simp (config := {contextual := true, implicitDefEqProofs := false, maxSteps := 1000000}) only [
    ↓PR0, ↓PR1, ↓PR2, PO0, PO1, PO2, PO3, result, resOf, allSome, number, upd, List.map, Option.bind_some, Nat.reduceAdd, Nat.reduceSub, Nat.reduceLeDiff, Nat.reduceLT, Nat.reduceEqDiff, Nat.zero_add, Nat.add_zero, Nat.le_refl, reduceIte, 
    ne_eq, not_false_eq_true, and_self, true_and, and_true, reduceCtorEq, cond_true, cond_false, c_spec_l00Number, hc0, decide_true, ixc, b45i, h45, e0, h18']
      · have h18' : ¬ (18 : Int) < ((r.length + 1 : Nat) : Int) := by omega
        have hpos : ¬ ((1 : Int) < 0) := by decide
        have hgo : ¬ (c = 48 ∧ 1 < r.length + 1) → EE X f_spec_l00Number [.str (c :: r)] σ = some (.tup [int (numV (c :: r)).1, .bool (numV (c :: r)).2], σ) := by
          intro hn48
          have hl := fun kk => l00Number_loop (X := X) (R := AV × Store) (c :: r) 1 (by simpa using h18) σ kk (c :: r).length 0 0 (by omega) (by decide)
          simp only [Int.cast_ofNat_Int, List.drop_zero, List.length_cons] at hl
          have hg := numV_good (t := c :: r) (by rw [htl]; simp only [not_or, not_and]; exact ⟨by simp, by simpa using h18, fun h => ⟨fun h1 => by simp at h h1; exact hn48 ⟨h, by omega⟩, by simpa using hc⟩⟩)
          rw [htl] at hg
          simp only [hhd, if_false] at hg
          rw [hg]
          cases h48 : c == 48 with
          | true =>
            have hc48 : c = 48 := by simpa using h48
            have h1' : ¬ (1 : Int) < ((r.length + 1 : Nat) : Int) := fun h => hn48 ⟨hc48, by omega⟩
            rw [EE, Ex_run C_spec_l00Number rfl]
            cases hd : decFrom 0 (c :: r) with
            | none =>
              simp only [hd] at hl
              simp (config := {contextual := true, implicitDefEqProofs := false, maxSteps := 1000000}) only [
    ↓PR0, ↓PR1, ↓PR2, PO0, PO1, PO2, PO3, result, resOf, allSome, number, upd, List.map, Option.bind_some, Nat.reduceAdd, Nat.reduceSub, Nat.reduceLeDiff, Nat.reduceLT, Nat.reduceEqDiff, Nat.zero_add, Nat.add_zero, Nat.le_refl, reduceIte, 
    ne_eq, not_false_eq_true, and_self, true_and, and_true, reduceCtorEq, cond_true, cond_false, c_spec_l00Number, hc0, decide_true, decide_false, ixc, b45i, h45, e0, h18', b48i, h48, h1', hpos, hl]
            | some n =>
              simp only [hd] at hl
              have hlt := dec_lt18 (l := c :: r) (by simpa using h18) hd
              have e18 : (10 : Nat) ^ 18 = 1000000000000000000 := rfl
              have hw : IntKind.i64.wrap (1 * (n : Int)) = (n : Int) := by rw [wrap64 (by omega) (by omega)]; omega
              simp (config := {contextual := true, implicitDefEqProofs := false, maxSteps := 1000000}) only [
    ↓PR0, ↓PR1, ↓PR2, PO0, PO1, PO2, PO3, result, resOf, allSome, number, upd, List.map, Option.bind_some, Nat.reduceAdd, Nat.reduceSub, Nat.reduceLeDiff, Nat.reduceLT, Nat.reduceEqDiff, Nat.zero_add, Nat.add_zero, Nat.le_refl, reduceIte, 
    ne_eq, not_false_eq_true, and_self, true_and, and_true, reduceCtorEq, cond_true, cond_false, c_spec_l00Number, hc0, decide_true, decide_false, ixc, b45i, h45, e0, h18', b48i, h48, h1', hpos, hl, hw]
          | false =>
            rw [EE, Ex_run C_spec_l00Number rfl]
            cases hd : decFrom 0 (c :: r) with
            | none =>
              simp only [hd] at hl
              simp (config := {contextual := true, implicitDefEqProofs := false, maxSteps := 1000000}) only [
    ↓PR0, ↓PR1, ↓PR2, PO0, PO1, PO2, PO3, result, resOf, allSome, number, upd, List.map, Option.bind_some, Nat.reduceAdd, Nat.reduceSub, Nat.reduceLeDiff, Nat.reduceLT, Nat.reduceEqDiff, Nat.zero_add, Nat.add_zero, Nat.le_refl, reduceIte, 
    ne_eq, not_false_eq_true, and_self, true_and, and_true, reduceCtorEq, cond_true, cond_false, c_spec_l00Number, hc0, decide_true, decide_false, ixc, b45i, h45, e0, h18', b48i, h48, hl]
            | some n =>
              simp only [hd] at hl
              have hlt := dec_lt18 (l := c :: r) (by simpa using h18) hd
              have e18 : (10 : Nat) ^ 18 = 1000000000000000000 := rfl
              have hw : IntKind.i64.wrap (1 * (n : Int)) = (n : Int) := by rw [wrap64 (by omega) (by omega)]; omega
              simp (config := {contextual := true, implicitDefEqProofs := false, maxSteps := 1000000}) only [
    ↓PR0, ↓PR1, ↓PR2, PO0, PO1, PO2, PO3, result, resOf, allSome, number, upd, List.map, Option.bind_some, Nat.reduceAdd, Nat.reduceSub, Nat.reduceLeDiff, Nat.reduceLT, Nat.reduceEqDiff, Nat.zero_add, Nat.add_zero, Nat.le_refl, reduceIte, 
    ne_eq, not_false_eq_true, and_self, true_and, and_true, reduceCtorEq, cond_true, cond_false, c_spec_l00Number, hc0, decide_true, decide_false, ixc, b45i, h45, e0, h18', b48i, h48, hl, hw]
        by_cases h48 : c = 48 ∧ 1 < r.length + 1
        · have h48' : (c == 48) = true := by simp [h48.1]
          have h1' : (1 : Int) < ((r.length + 1 : Nat) : Int) := by have := h48.2; omega
          rw [numV_bad (.inr (.inr ⟨by rw [htl, h48.1]; rfl, .inl (by rw [htl]; simpa using h48.2)⟩)), EE, Ex_run C_spec_l00Number rfl]
          simp (config := {contextual := true, implicitDefEqProofs := false, maxSteps := 1000000}) only [
    ↓PR0, ↓PR1, ↓PR2, PO0, PO1, PO2, PO3, result, resOf, allSome, number, upd, List.map, Option.bind_some, Nat.reduceAdd, Nat.reduceSub, Nat.reduceLeDiff, Nat.reduceLT, Nat.reduceEqDiff, Nat.zero_add, Nat.add_zero, Nat.le_refl, reduceIte, 
    ne_eq, not_false_eq_true, and_self, true_and, and_true, reduceCtorEq, cond_true, cond_false, c_spec_l00Number, hc0, decide_true, decide_false, ixc, b45i, h45, e0, h18', b48i, h48', h1']
        · exact hgo h48
end Go.X
