/- Tokens: signs and quotes. -/
import Derived.Test.YtiiiciekknpoeaaGreatDoorXD4
import Derived.Test.YtiiiciekknpoeaaGreatDoorXK1
import Derived.Test.YtiiiciekknpoeaaGreatDoorXL2
set_option linter.unusedVariables false
set_option linter.unusedSimpArgs false
set_option maxRecDepth 20000
namespace Go.X
open Go Go.Lib
variable {X : Call}

theorem b39i (a : UInt8) : ((((a.toNat : Nat) : Int)) == 39) = (a == 39) := by
  rw [Bool.eq_iff_iff]; simp only [beq_iff_eq]
  constructor
  · intro h; apply UInt8.toNat_inj.1; have : a.toNat = 39 := by omega
    rw [this]; rfl
  · intro h; subst h; rfl
theorem b92i (a : UInt8) : ((((a.toNat : Nat) : Int)) == 92) = (a == 92) := by
  rw [Bool.eq_iff_iff]; simp only [beq_iff_eq]
  constructor
  · intro h; apply UInt8.toNat_inj.1; have : a.toNat = 92 := by omega
    rw [this]; rfl
  · intro h; subst h; rfl
theorem bbi (a b : UInt8) : ((((a.toNat : Nat) : Int)) == ((b.toNat : Nat) : Int)) = (a == b) := by
  rw [Bool.eq_iff_iff]; simp only [beq_iff_eq]
  constructor
  · intro h; apply UInt8.toNat_inj.1; omega
  · intro h; subst h; rfl

/-! ### Signs -/

theorem l02Sign_loop {R : Type} (b : UInt8) (σ : Store) (kk : Out → S → Option R) : ∀ d i, i + d = signs17.length →
    loopK (EE X) [0, 3] l_spec_l02Sign_0 ([(0, .v (.int .u8 (b.toNat : Nat))), (3, .v (int i))], ⟨[], σ⟩) kk =
      br ((signs17.drop i).any (fun x => x == b)) (kk .ret ([(2, .v (.bool true))], ⟨[], σ⟩)) (kk (.exit 0) ([(0, .v (.int .u8 (b.toNat : Nat))), (3, .v (int 16)), (5, .v (.bool false))], ⟨[], σ⟩)) := by
  intro d
  induction d with
  | zero =>
    intro i hi
    have e : i = 16 := hi
    subst e
    have h0 : ¬ (((16 : Nat) : Int) < 16) := by decide
    rw [loopK_step l_spec_l02Sign_0.eq_1]
    simp (config := {contextual := true, implicitDefEqProofs := false, maxSteps := 1000000}) only [
    ↓PR0, ↓PR1, ↓PR2, PO0, PO1, PO2, PO3, result, resOf, allSome, number, upd, List.map, Option.bind_some, Nat.reduceAdd, Nat.reduceSub, Nat.reduceLeDiff, Nat.reduceLT, Nat.reduceEqDiff, Nat.zero_add, Nat.add_zero, Nat.le_refl, reduceIte, 
    ne_eq, not_false_eq_true, and_self, true_and, and_true, reduceCtorEq, cond_true, cond_false, h0, decide_false]
    rfl
  | succ d ih =>
    intro i hi
    have hl : signs17.length = 16 := rfl
    have hlt : i < signs17.length := by omega
    have hlt' : (i : Int) < 16 := by omega
    have hwi : IntKind.i64.wrap ((i : Int) + 1) = ((i + 1 : Nat) : Int) := wrap64 (by omega) (by omega)
    have hix : idxV (.str [43, 45, 42, 47, 37, 60, 61, 33, 38, 124, 40, 41, 123, 125, 44, 59]) (int i) = some (.int .u8 (signs17[i].toNat : Nat)) := idx_nat signs17 hlt
    have ih' := ih (i + 1) (by omega)
    rw [List.drop_eq_getElem_cons hlt, List.any_cons, loopK_step l_spec_l02Sign_0.eq_1]
    cases hb : signs17[i] == b with
    | true => simp (config := {contextual := true, implicitDefEqProofs := false, maxSteps := 1000000}) only [
    ↓PR0, ↓PR1, ↓PR2, PO0, PO1, PO2, PO3, result, resOf, allSome, number, upd, List.map, Option.bind_some, Nat.reduceAdd, Nat.reduceSub, Nat.reduceLeDiff, Nat.reduceLT, Nat.reduceEqDiff, Nat.zero_add, Nat.add_zero, Nat.le_refl, reduceIte, 
    ne_eq, not_false_eq_true, and_self, true_and, and_true, reduceCtorEq, cond_true, cond_false, hlt', decide_true, hix, bbi, hb, Bool.true_or]
    | false => simp (config := {contextual := true, implicitDefEqProofs := false, maxSteps := 1000000}) only [
    ↓PR0, ↓PR1, ↓PR2, PO0, PO1, PO2, PO3, result, resOf, allSome, number, upd, List.map, Option.bind_some, Nat.reduceAdd, Nat.reduceSub, Nat.reduceLeDiff, Nat.reduceLT, Nat.reduceEqDiff, Nat.zero_add, Nat.add_zero, Nat.le_refl, reduceIte, 
    ne_eq, not_false_eq_true, and_self, true_and, and_true, reduceCtorEq, cond_true, cond_false, hlt', decide_true, hix, bbi, hb, Bool.false_or, hwi, ih']
theorem l02Sign_eq (b : UInt8) (σ : Store) : EE X f_spec_l02Sign [.int .u8 (b.toNat : Nat)] σ = some (.bool (signs17.contains b), σ) := by
  have h := fun kk : Out → S → Option (AV × Store) => l02Sign_loop (X := X) b σ kk 16 0 rfl
  have e : signs17.contains b = signs17.any (fun x => x == b) := by
    rw [List.contains_eq_any_beq]
    congr 1
    funext x
    exact Bool.beq_comm
  simp only [Int.cast_ofNat_Int, List.drop_zero] at h
  rw [e, EE, Ex_run C_spec_l02Sign rfl]
  simp (config := {contextual := true, implicitDefEqProofs := false, maxSteps := 1000000}) only [
    ↓PR0, ↓PR1, ↓PR2, PO0, PO1, PO2, PO3, result, resOf, allSome, number, upd, List.map, Option.bind_some, Nat.reduceAdd, Nat.reduceSub, Nat.reduceLeDiff, Nat.reduceLT, Nat.reduceEqDiff, Nat.zero_add, Nat.add_zero, Nat.le_refl, reduceIte, 
    ne_eq, not_false_eq_true, and_self, true_and, and_true, reduceCtorEq, cond_true, cond_false, c_spec_l02Sign, h]
  cases signs17.any (fun x => x == b) <;> rfl
theorem sign_loop {R : Type} (t : List UInt8) (p : Nat) (hp : p ≤ t.length) (ht : t.length ≤ 1048576) (σ : Store) (l : List (List UInt8)) (a : AV) (ha : RS RT 1 σ l a) (hl : l.length ≤ 1000) (kk : Out → S → Option R) : ∀ d i, i + d = l.length →
    loopK (EE X) [0, 1, 7, 8, 9] l_impl_sign_0 ([(0, .v (.str t)), (1, .v (int p)), (7, .v a), (8, .v (int l.length)), (9, .v (int i))], ⟨[], σ⟩) kk =
      match (l.drop i).find? (hasP (t.drop p)) with
      | some q => kk .ret ([(4, .v (.str q))], ⟨[], σ⟩)
      | none => kk (.exit 0) ([(0, .v (.str t)), (1, .v (int p)), (7, .v a), (8, .v (int l.length)), (9, .v (int l.length)), (10, .v (.bool false))], ⟨[], σ⟩) := by
  intro d
  induction d with
  | zero =>
    intro i hi
    have e : i = l.length := by omega
    subst e
    rw [List.drop_length]
    simp only [List.find?_nil]
    rw [loopK_step l_impl_sign_0.eq_1]
    simp (config := {contextual := true, implicitDefEqProofs := false, maxSteps := 1000000}) only [
    ↓PR0, ↓PR1, ↓PR2, PO0, PO1, PO2, PO3, result, resOf, allSome, number, upd, List.map, Option.bind_some, Nat.reduceAdd, Nat.reduceSub, Nat.reduceLeDiff, Nat.reduceLT, Nat.reduceEqDiff, Nat.zero_add, Nat.add_zero, Nat.le_refl, reduceIte, 
    ne_eq, not_false_eq_true, and_self, true_and, and_true, reduceCtorEq, cond_true, cond_false, Int.lt_irrefl, decide_false]
  | succ d ih =>
    intro i hi
    have hlt : i < l.length := by omega
    have hlt' : (i : Int) < (l.length : Int) := by omega
    have hwi : IntKind.i64.wrap ((i : Int) + 1) = ((i + 1 : Nat) : Int) := wrap64 (by omega) (by omega)
    obtain ⟨c1, ⟨hp', _⟩, ha1, ha2, _⟩ := ha.get (List.getElem?_eq_getElem hlt)
    subst hp'
    have hs1 : (0 : Int) ≤ (p : Int) ∧ (p : Int) ≤ (t.length : Int) := by omega
    have hs2 : List.take (((t.length : Nat) : Int).toNat - ((p : Nat) : Int).toNat) (List.drop ((p : Nat) : Int).toNat t) = t.drop p := by
      rw [Int.toNat_natCast, Int.toNat_natCast, List.take_of_length_le (by simp)]
    have hh := hasPrefix_eq (X := X) (t.drop p) l[i] (by unfold LenOk; simp only [List.length_drop]; omega) σ
    have ih' := ih (i + 1) (by omega)
    rw [List.drop_eq_getElem_cons hlt, List.find?_cons]
    cases hb : hasP (t.drop p) l[i] with
    | true =>
      rw [hb] at hh
      simp only
      rw [loopK_step l_impl_sign_0.eq_1]
      simp (config := {contextual := true, implicitDefEqProofs := false, maxSteps := 1000000}) only [
    ↓PR0, ↓PR1, ↓PR2, PO0, PO1, PO2, PO3, result, resOf, allSome, number, upd, List.map, Option.bind_some, Nat.reduceAdd, Nat.reduceSub, Nat.reduceLeDiff, Nat.reduceLT, Nat.reduceEqDiff, Nat.zero_add, Nat.add_zero, Nat.le_refl, reduceIte, 
    ne_eq, not_false_eq_true, and_self, true_and, and_true, reduceCtorEq, cond_true, cond_false, hlt', decide_true, ha1, ha2, hs1, hs2, Int.le_refl, hh]
    | false =>
      rw [hb] at hh
      simp only
      rw [← ih', loopK_step l_impl_sign_0.eq_1]
      simp (config := {contextual := true, implicitDefEqProofs := false, maxSteps := 1000000}) only [
    ↓PR0, ↓PR1, ↓PR2, PO0, PO1, PO2, PO3, result, resOf, allSome, number, upd, List.map, Option.bind_some, Nat.reduceAdd, Nat.reduceSub, Nat.reduceLeDiff, Nat.reduceLT, Nat.reduceEqDiff, Nat.zero_add, Nat.add_zero, Nat.le_refl, reduceIte, 
    ne_eq, not_false_eq_true, and_self, true_and, and_true, reduceCtorEq, cond_true, cond_false, hlt', decide_true, ha1, ha2, hs1, hs2, Int.le_refl, hh, hwi]
theorem sign_eq (hX : LibX X) (t : List UInt8) (p : Nat) (hp : p < t.length) (ht : t.length ≤ 1048576) (σ : Store) : ∃ σ', EE X f_impl_sign [.str t, int p] σ = some (.str (signAt (t.drop p)), σ') ∧ Pre σ σ' := by
  have hr : RS RT 1 (σ ++ [⟨[[.str [61, 61]], [.str [38, 38]], [.str [124, 124]]], 1, 0, .own⟩]) [[61, 61], [38, 38], [124, 124]] (.sl σ.length 0 0 3) := lits σ [[61, 61], [38, 38], [124, 124]] (by intro t ht; simp at ht; rcases ht with rfl | rfl | rfl <;> (unfold LenOk; decide))
  have h := fun kk : Out → S → Option (AV × Store) => sign_loop (X := X) t p (by omega) ht _ _ _ hr (by decide) kk 3 0 rfl
  simp only [Int.cast_ofNat_Int, List.drop_zero, List.length_cons, List.length_nil] at h
  have hix := idx_nat t hp
  have hib := fun σ => hX.ib signs15 t[p] σ
  have hneg := ib_neg signs15 t[p]
  simp only [signs15] at hib
  have ed : t.drop p = t[p] :: t.drop (p + 1) := List.drop_eq_getElem_cons hp
  refine ⟨σ ++ [⟨[[.str [61, 61]], [.str [38, 38]], [.str [124, 124]]], 1, 0, .own⟩], ?_, Pre.app _ _⟩
  have e3 : sign3 (t.drop p) = [[61, 61], [38, 38], [124, 124]].find? (hasP (t.drop p)) := rfl
  rw [EE, Ex_run C_impl_sign rfl]
  cases h3 : sign3 (t.drop p) with
  | some q =>
    rw [← e3, h3] at h
    simp only at h
    simp (config := {contextual := true, implicitDefEqProofs := false, maxSteps := 1000000}) only [
    ↓PR0, ↓PR1, ↓PR2, PO0, PO1, PO2, PO3, result, resOf, allSome, number, upd, List.map, Option.bind_some, Nat.reduceAdd, Nat.reduceSub, Nat.reduceLeDiff, Nat.reduceLT, Nat.reduceEqDiff, Nat.zero_add, Nat.add_zero, Nat.le_refl, reduceIte, 
    ne_eq, not_false_eq_true, and_self, true_and, and_true, reduceCtorEq, cond_true, cond_false, c_impl_sign, List.replicate_succ, List.replicate_zero, List.set_cons_zero, List.set_cons_succ, h]
    simp only [signAt, h3]
  | none =>
    rw [← e3, h3] at h
    simp only at h
    have e4 : signAt (t.drop p) = (if signs15.contains t[p] = true then [t[p]] else []) := by
      unfold signAt
      rw [h3, ed]
    rw [e4]
    cases hc : signs15.contains t[p] with
    | false =>
      have hlt0 : indexByte [43, 45, 42, 47, 37, 60, 61, 33, 40, 41, 123, 125, 44, 59] t[p] < 0 := hneg.2 hc
      simp (config := {contextual := true, implicitDefEqProofs := false, maxSteps := 1000000}) only [
    ↓PR0, ↓PR1, ↓PR2, PO0, PO1, PO2, PO3, result, resOf, allSome, number, upd, List.map, Option.bind_some, Nat.reduceAdd, Nat.reduceSub, Nat.reduceLeDiff, Nat.reduceLT, Nat.reduceEqDiff, Nat.zero_add, Nat.add_zero, Nat.le_refl, reduceIte, 
    ne_eq, not_false_eq_true, and_self, true_and, and_true, reduceCtorEq, cond_true, cond_false, c_impl_sign, List.replicate_succ, List.replicate_zero, List.set_cons_zero, List.set_cons_succ, h, hix, hib, hlt0, decide_true]
    | true =>
      have hlt0 : ¬ indexByte [43, 45, 42, 47, 37, 60, 61, 33, 40, 41, 123, 125, 44, 59] t[p] < 0 := fun h => by have := hneg.1 h; rw [hc] at this; cases this
      have hwi : IntKind.i64.wrap ((p : Int) + 1) = ((p + 1 : Nat) : Int) := wrap64 (by omega) (by omega)
      have hs1 : (0 : Int) ≤ (p : Int) ∧ (p : Int) ≤ ((p + 1 : Nat) : Int) ∧ ((p + 1 : Nat) : Int) ≤ (t.length : Int) := by omega
      have hs2 : List.take (((p + 1 : Nat) : Int).toNat - ((p : Nat) : Int).toNat) (List.drop ((p : Nat) : Int).toNat t) = [t[p]] := by
        rw [Int.toNat_natCast, Int.toNat_natCast, ed]
        have : p + 1 - p = 1 := by omega
        rw [this]
        rfl
      simp (config := {contextual := true, implicitDefEqProofs := false, maxSteps := 1000000}) only [
    ↓PR0, ↓PR1, ↓PR2, PO0, PO1, PO2, PO3, result, resOf, allSome, number, upd, List.map, Option.bind_some, Nat.reduceAdd, Nat.reduceSub, Nat.reduceLeDiff, Nat.reduceLT, Nat.reduceEqDiff, Nat.zero_add, Nat.add_zero, Nat.le_refl, reduceIte, 
    ne_eq, not_false_eq_true, and_self, true_and, and_true, reduceCtorEq, cond_true, cond_false, c_impl_sign, List.replicate_succ, List.replicate_zero, List.set_cons_zero, List.set_cons_succ, h, hix, hib, hlt0, decide_false, hwi, hs1, hs2]
theorem isSign_eq (hX : LibX X) (t : List UInt8) (ht : t.length ≤ 1048576) (σ : Store) : ∃ σ', EE X f_impl_isSign [.str t] σ = some (.bool (signM t), σ') ∧ Pre σ σ' := by
  cases t with
  | nil =>
    have e : (([] : List UInt8) != []) = false := rfl
    refine ⟨σ, ?_, Fr.refl _ _⟩
    rw [EE, Ex_run C_impl_isSign rfl]
    simp (config := {contextual := true, implicitDefEqProofs := false, maxSteps := 1000000}) only [
    ↓PR0, ↓PR1, ↓PR2, PO0, PO1, PO2, PO3, result, resOf, allSome, number, upd, List.map, Option.bind_some, Nat.reduceAdd, Nat.reduceSub, Nat.reduceLeDiff, Nat.reduceLT, Nat.reduceEqDiff, Nat.zero_add, Nat.add_zero, Nat.le_refl, reduceIte, 
    ne_eq, not_false_eq_true, and_self, true_and, and_true, reduceCtorEq, cond_true, cond_false, c_impl_isSign, e]
    rfl
  | cons b r =>
    have e : ((b :: r) != []) = true := rfl
    obtain ⟨σ', h1, h2⟩ := sign_eq hX (b :: r) 0 (by simp) ht σ
    simp only [Int.cast_ofNat_Int, List.drop_zero] at h1
    refine ⟨σ', ?_, h2⟩
    rw [← isSign_plain (b :: r) (by simp), EE, Ex_run C_impl_isSign rfl]
    simp (config := {contextual := true, implicitDefEqProofs := false, maxSteps := 1000000}) only [
    ↓PR0, ↓PR1, ↓PR2, PO0, PO1, PO2, PO3, result, resOf, allSome, number, upd, List.map, Option.bind_some, Nat.reduceAdd, Nat.reduceSub, Nat.reduceLeDiff, Nat.reduceLT, Nat.reduceEqDiff, Nat.zero_add, Nat.add_zero, Nat.le_refl, reduceIte, 
    ne_eq, not_false_eq_true, and_self, true_and, and_true, reduceCtorEq, cond_true, cond_false, c_impl_isSign, e, h1]
end Go.X
