/- Reading tokens: one token, by the reference. -/
import Derived.Test.YtiiiciekknpoeaaGreatDoorXD9
set_option linter.unusedVariables false
set_option linter.unusedSimpArgs false
set_option maxRecDepth 20000
namespace Go.X
open Go Go.Lib
variable {X : Call}

theorem b38i (a : UInt8) : ((((a.toNat : Nat) : Int)) == 38) = (a == 38) := by
  rw [Bool.eq_iff_iff]; simp only [beq_iff_eq]
  constructor
  · intro h; apply UInt8.toNat_inj.1; have : a.toNat = 38 := by omega
    rw [this]; rfl
  · intro h; subst h; rfl
theorem b61i (a : UInt8) : ((((a.toNat : Nat) : Int)) == 61) = (a == 61) := by
  rw [Bool.eq_iff_iff]; simp only [beq_iff_eq]
  constructor
  · intro h; apply UInt8.toNat_inj.1; have : a.toNat = 61 := by omega
    rw [this]; rfl
  · intro h; subst h; rfl
theorem b124i (a : UInt8) : ((((a.toNat : Nat) : Int)) == 124) = (a == 124) := by
  rw [Bool.eq_iff_iff]; simp only [beq_iff_eq]
  constructor
  · intro h; apply UInt8.toNat_inj.1; have : a.toNat = 124 := by omega
    rw [this]; rfl
  · intro h; subst h; rfl
def twoB (b : UInt8) (r : List UInt8) : Bool := match r with
  | [] => false
  | c :: _ => (b == 61 && c == 61) || (b == 38 && c == 38) || (b == 124 && c == 124)
theorem sign_two (b : UInt8) (r : List UInt8) : signAt (b :: r) = if twoB b r = true then [b, b] else if signs15.contains b = true then [b] else [] := by
  cases r with
  | nil =>
    have h3 : sign3 [b] = none := by simp [sign3, hasP]
    simp only [signAt, h3, twoB, Bool.false_eq_true, if_false]
  | cons c r =>
    have hp : ∀ x y : UInt8, hasP (b :: c :: r) [x, y] = (b == x && c == y) := by intro x y; simp [hasP]
    simp only [signAt, sign3, List.find?_cons, List.find?_nil, hp]
    cases h1 : (b == 61 && c == 61) with
    | true =>
      have e : twoB b (c :: r) = true := by simp only [twoB, h1, Bool.true_or]
      have hb : b = 61 := by simp only [Bool.and_eq_true, beq_iff_eq] at h1; exact h1.1
      rw [if_pos e, hb]
    | false =>
      cases h2 : (b == 38 && c == 38) with
      | true =>
        have e : twoB b (c :: r) = true := by simp only [twoB, h1, h2, Bool.true_or, Bool.or_true]
        have hb : b = 38 := by simp only [Bool.and_eq_true, beq_iff_eq] at h2; exact h2.1
        rw [if_pos e, hb]
      | false =>
        cases h3 : (b == 124 && c == 124) with
        | true =>
          have e : twoB b (c :: r) = true := by simp only [twoB, h1, h2, h3, Bool.or_true]
          have hb : b = 124 := by simp only [Bool.and_eq_true, beq_iff_eq] at h3; exact h3.1
          rw [if_pos e, hb]
        | false =>
          have e : ¬ twoB b (c :: r) = true := by simp only [twoB, h1, h2, h3, Bool.or_self, Bool.false_eq_true, not_false_eq_true]
          rw [if_neg e]
theorem signs_more (b : UInt8) : signs17.contains b = (signs15.contains b || b == 38 || b == 124) :=
  byte_all (p := fun b => signs17.contains b = (signs15.contains b || b == 38 || b == 124)) (by decide) b
theorem signs_61 (b : UInt8) : (b == 61) = true → signs15.contains b = true := fun h => by rw [eq_of_beq h]; decide
theorem signs_38 (b : UInt8) : (b == 38 || b == 124) = true → signs15.contains b = false := fun h => by
  rw [Bool.or_eq_true] at h
  rcases h with h | h <;> (rw [eq_of_beq h]; decide)
abbrev zTok : List AV := [int 0, int 0, .str []]
theorem nextL_loop {R : Type} (t : List UInt8) (p : Nat) (ht : t.length ≤ 1048576) (σ : Store) (kk : Out → S → Option R) : ∀ d i, i + d = t.length →
    loopK (EE X) [0, 1, 4, 8] l_spec_l02Next_2 ([(0, .v (.str t)), (1, .v (int p)), (4, .lp 4 0), (8, .v (int i))], ⟨[(4, zTok)], σ⟩) kk =
      kk (.exit 1) ([(0, .v (.str t)), (1, .v (int p)), (4, .lp 4 0), (8, .v (int ((i + runN ldB (t.drop i) : Nat) : Int))), (36, .v (.bool false))], ⟨[(4, zTok)], σ⟩) := by
  intro d
  induction d with
  | zero =>
    intro i hi
    have e : i = t.length := by omega
    subst e
    rw [loopK_step l_spec_l02Next_2.eq_1, List.drop_length]
    simp (config := {contextual := true, implicitDefEqProofs := false, maxSteps := 1000000}) only [
    ↓PR0, ↓PR1, ↓PR2, PO0, PO1, PO2, PO3, result, resOf, allSome, number, upd, List.map, Option.bind_some, Nat.reduceAdd, Nat.reduceSub, Nat.reduceLeDiff, Nat.reduceLT, Nat.reduceEqDiff, Nat.zero_add, Nat.add_zero, Nat.le_refl, reduceIte, 
    ne_eq, not_false_eq_true, and_self, true_and, and_true, reduceCtorEq, cond_true, cond_false, Int.lt_irrefl, decide_false, runN]
  | succ d ih =>
    intro i hi
    have hlt : i < t.length := by omega
    have hlt' : (i : Int) < (t.length : Int) := by omega
    have hwi : IntKind.i64.wrap ((i : Int) + 1) = ((i + 1 : Nat) : Int) := wrap64 (by omega) (by omega)
    have ih' := ih (i + 1) (by omega)
    have hix := idx_nat t hlt
    have h1 := l00Letter_eq (X := X) (t[i].toNat : Nat) σ
    have h2 := l00Digit_eq (X := X) (t[i].toNat : Nat) σ
    have e1 : i + (runN ldB (t.drop (i + 1)) + 1) = i + 1 + runN ldB (t.drop (i + 1)) := by omega
    rw [List.drop_eq_getElem_cons hlt, loopK_step l_spec_l02Next_2.eq_1]
    cases hl : ltrI (t[i].toNat : Nat) with
    | true =>
      rw [hl] at h1
      have hb : ldB t[i] = true := by simp only [ldB, hl, Bool.true_or]
      simp (config := {contextual := true, implicitDefEqProofs := false, maxSteps := 1000000}) only [
    ↓PR0, ↓PR1, ↓PR2, PO0, PO1, PO2, PO3, result, resOf, allSome, number, upd, List.map, Option.bind_some, Nat.reduceAdd, Nat.reduceSub, Nat.reduceLeDiff, Nat.reduceLT, Nat.reduceEqDiff, Nat.zero_add, Nat.add_zero, Nat.le_refl, reduceIte, 
    ne_eq, not_false_eq_true, and_self, true_and, and_true, reduceCtorEq, cond_true, cond_false, hlt', decide_true, hix, h1, hwi, ih', runN, hb, if_true, e1]
    | false =>
      rw [hl] at h1
      cases hd : digI (t[i].toNat : Nat) with
      | true =>
        rw [hd] at h2
        have hb : ldB t[i] = true := by simp only [ldB, hd, Bool.or_true]
        simp (config := {contextual := true, implicitDefEqProofs := false, maxSteps := 1000000}) only [
    ↓PR0, ↓PR1, ↓PR2, PO0, PO1, PO2, PO3, result, resOf, allSome, number, upd, List.map, Option.bind_some, Nat.reduceAdd, Nat.reduceSub, Nat.reduceLeDiff, Nat.reduceLT, Nat.reduceEqDiff, Nat.zero_add, Nat.add_zero, Nat.le_refl, reduceIte, 
    ne_eq, not_false_eq_true, and_self, true_and, and_true, reduceCtorEq, cond_true, cond_false, hlt', decide_true, hix, h1, h2, hwi, ih', runN, hb, if_true, e1]
      | false =>
        rw [hd] at h2
        have hb : ldB t[i] = false := by simp only [ldB, hl, hd, Bool.or_self]
        simp (config := {contextual := true, implicitDefEqProofs := false, maxSteps := 1000000}) only [
    ↓PR0, ↓PR1, ↓PR2, PO0, PO1, PO2, PO3, result, resOf, allSome, number, upd, List.map, Option.bind_some, Nat.reduceAdd, Nat.reduceSub, Nat.reduceLeDiff, Nat.reduceLT, Nat.reduceEqDiff, Nat.zero_add, Nat.add_zero, Nat.le_refl, reduceIte, 
    ne_eq, not_false_eq_true, and_self, true_and, and_true, reduceCtorEq, cond_true, cond_false, hlt', decide_true, hix, h1, h2, runN, hb, if_false, Bool.false_eq_true]
theorem nextD_loop {R : Type} (t : List UInt8) (p : Nat) (ht : t.length ≤ 1048576) (σ : Store) (kk : Out → S → Option R) : ∀ d i, i + d = t.length →
    loopK (EE X) [0, 1, 4, 8] l_spec_l02Next_1 ([(0, .v (.str t)), (1, .v (int p)), (4, .lp 4 0), (8, .v (int i))], ⟨[(4, zTok)], σ⟩) kk =
      kk (.exit 3) ([(0, .v (.str t)), (1, .v (int p)), (4, .lp 4 0), (8, .v (int ((i + runN digB (t.drop i) : Nat) : Int))), (70, .v (.bool false))], ⟨[(4, zTok)], σ⟩) := by
  intro d
  induction d with
  | zero =>
    intro i hi
    have e : i = t.length := by omega
    subst e
    rw [loopK_step l_spec_l02Next_1.eq_1, List.drop_length]
    simp (config := {contextual := true, implicitDefEqProofs := false, maxSteps := 1000000}) only [
    ↓PR0, ↓PR1, ↓PR2, PO0, PO1, PO2, PO3, result, resOf, allSome, number, upd, List.map, Option.bind_some, Nat.reduceAdd, Nat.reduceSub, Nat.reduceLeDiff, Nat.reduceLT, Nat.reduceEqDiff, Nat.zero_add, Nat.add_zero, Nat.le_refl, reduceIte, 
    ne_eq, not_false_eq_true, and_self, true_and, and_true, reduceCtorEq, cond_true, cond_false, Int.lt_irrefl, decide_false, runN]
  | succ d ih =>
    intro i hi
    have hlt : i < t.length := by omega
    have hlt' : (i : Int) < (t.length : Int) := by omega
    have hwi : IntKind.i64.wrap ((i : Int) + 1) = ((i + 1 : Nat) : Int) := wrap64 (by omega) (by omega)
    have ih' := ih (i + 1) (by omega)
    have hix := idx_nat t hlt
    have h2 := l00Digit_eq (X := X) (t[i].toNat : Nat) σ
    have e1 : i + (runN digB (t.drop (i + 1)) + 1) = i + 1 + runN digB (t.drop (i + 1)) := by omega
    rw [List.drop_eq_getElem_cons hlt, loopK_step l_spec_l02Next_1.eq_1]
    cases hd : digI (t[i].toNat : Nat) with
    | true =>
      rw [hd] at h2
      have hb : digB t[i] = true := hd
      simp (config := {contextual := true, implicitDefEqProofs := false, maxSteps := 1000000}) only [
    ↓PR0, ↓PR1, ↓PR2, PO0, PO1, PO2, PO3, result, resOf, allSome, number, upd, List.map, Option.bind_some, Nat.reduceAdd, Nat.reduceSub, Nat.reduceLeDiff, Nat.reduceLT, Nat.reduceEqDiff, Nat.zero_add, Nat.add_zero, Nat.le_refl, reduceIte, 
    ne_eq, not_false_eq_true, and_self, true_and, and_true, reduceCtorEq, cond_true, cond_false, hlt', decide_true, hix, h2, hwi, ih', runN, hb, if_true, e1]
    | false =>
      rw [hd] at h2
      have hb : digB t[i] = false := hd
      simp (config := {contextual := true, implicitDefEqProofs := false, maxSteps := 1000000}) only [
    ↓PR0, ↓PR1, ↓PR2, PO0, PO1, PO2, PO3, result, resOf, allSome, number, upd, List.map, Option.bind_some, Nat.reduceAdd, Nat.reduceSub, Nat.reduceLeDiff, Nat.reduceLT, Nat.reduceEqDiff, Nat.zero_add, Nat.add_zero, Nat.le_refl, reduceIte, 
    ne_eq, not_false_eq_true, and_self, true_and, and_true, reduceCtorEq, cond_true, cond_false, hlt', decide_true, hix, h2, runN, hb, if_false, Bool.false_eq_true]
def NRes (t : List UInt8) (p i : Nat) (acc : List UInt8) (q : Nat) (σ' : Store) {R : Type} (L : (Out → S → Option R) → Option R) : Prop :=
  match quotedM (t.drop i) with
  | some (x, u) => ∃ a', 1 ≤ u ∧ i + u ≤ t.length ∧ OwR q σ' 1 (bc (acc ++ x)) a' ∧ ∀ kk, L kk = kk (.exit 5) ([(0, .v (.str t)), (1, .v (int p)), (4, .lp 4 0), (8, .v (int ((i + (u - 1) : Nat) : Int))), (12, .v a'), (109, .v (.bool false))], ⟨[(4, zTok)], σ'⟩)
  | none => (∀ kk, L kk = kk .ret ([(4, .lp 4 0), (5, .v (int p)), (6, .v (.bool false))], ⟨[(4, zTok)], σ'⟩)) ∨ ∃ a', ∀ kk, L kk = kk (.exit 5) ([(0, .v (.str t)), (1, .v (int p)), (4, .lp 4 0), (8, .v (int t.length)), (12, .v a'), (109, .v (.bool false))], ⟨[(4, zTok)], σ'⟩)
set_option maxHeartbeats 1000000 in
theorem nextQ_loop {R : Type} {q : Nat} (t : List UInt8) (p : Nat) (ht : t.length ≤ 1048576) : ∀ d i acc a σ, i ≤ t.length → t.length ≤ i + d → acc.length ≤ i → OwR q σ 1 (bc acc) a →
    ∃ σ', Fr (fun r => r = q) σ σ' ∧ NRes t p i acc q σ' (R := R) (fun kk => loopK (EE X) [0, 1, 4, 8, 12] l_spec_l02Next_0 ([(0, .v (.str t)), (1, .v (int p)), (4, .lp 4 0), (8, .v (int i)), (12, .v a)], ⟨[(4, zTok)], σ⟩) kk) := by
  intro d
  induction d using Nat.strongRecOn with
  | _ d ih =>
  intro i acc a σ hi hd hacc hw
  have hel : ∀ (x : AV) M, elsOf M 1 (.ls [[x]]) = some [[x]] := fun _ _ => rfl
  by_cases hlt : i < t.length
  · have hlt' : (i : Int) < (t.length : Int) := by omega
    have hwi : IntKind.i64.wrap ((i : Int) + 1) = ((i + 1 : Nat) : Int) := wrap64 (by omega) (by omega)
    have hix := idx_nat t hlt
    have ed := List.drop_eq_getElem_cons hlt
    have hb256 := UInt8.toNat_lt t[i]
    have hcv : IntKind.i64.wrap ((t[i].toNat : Nat) : Int) = (t[i].toNat : Nat) := wrap64 (by omega) (by omega)
    cases h39 : t[i] == 39 with
    | true =>
      refine ⟨σ, Fr.refl _ _, ?_⟩
      unfold NRes
      rw [ed, qM_quote h39]
      refine ⟨a, by omega, by omega, by rw [List.append_nil]; exact hw, fun kk => ?_⟩
      dsimp only
      rw [loopK_step l_spec_l02Next_0.eq_1]
      simp (config := {contextual := true, implicitDefEqProofs := false, maxSteps := 1000000}) only [
    ↓PR0, ↓PR1, ↓PR2, PO0, PO1, PO2, PO3, result, resOf, allSome, number, upd, List.map, Option.bind_some, Nat.reduceAdd, Nat.reduceSub, Nat.reduceLeDiff, Nat.reduceLT, Nat.reduceEqDiff, Nat.zero_add, Nat.add_zero, Nat.le_refl, reduceIte, 
    ne_eq, not_false_eq_true, and_self, true_and, and_true, reduceCtorEq, cond_true, cond_false, hlt', decide_true, hix, b39i, h39, bne, Bool.not_true]
    | false =>
      cases h92 : t[i] == 92 with
      | true =>
        by_cases hlt2 : i + 1 < t.length
        · have hlt2' : (((i + 1 : Nat) : Int) == (t.length : Int)) = false := by rw [beq_eq_false_iff_ne]; omega
          have hix2 := idx_nat t hlt2
          have ed2 := List.drop_eq_getElem_cons hlt2
          have hb256' := UInt8.toNat_lt t[i + 1]
          have hcv2 : IntKind.i64.wrap ((t[i + 1].toNat : Nat) : Int) = (t[i + 1].toNat : Nat) := wrap64 (by omega) (by omega)
          have hwi2 : IntKind.i64.wrap (((i + 1 : Nat) : Int) + 1) = ((i + 2 : Nat) : Int) := wrap64 (by omega) (by omega)
          cases hc : (t[i + 1] == 39 || t[i + 1] == 92) with
          | false =>
            refine ⟨σ, Fr.refl _ _, ?_⟩
            unfold NRes
            rw [ed, ed2, qM_esc h39 h92, if_neg (by rw [hc]; decide)]
            refine .inl fun kk => ?_
            dsimp only
            rw [Bool.or_eq_false_iff] at hc
            rw [loopK_step l_spec_l02Next_0.eq_1]
            simp (config := {contextual := true, implicitDefEqProofs := false, maxSteps := 1000000}) only [
    ↓PR0, ↓PR1, ↓PR2, PO0, PO1, PO2, PO3, result, resOf, allSome, number, upd, List.map, Option.bind_some, Nat.reduceAdd, Nat.reduceSub, Nat.reduceLeDiff, Nat.reduceLT, Nat.reduceEqDiff, Nat.zero_add, Nat.add_zero, Nat.le_refl, reduceIte, 
    ne_eq, not_false_eq_true, and_self, true_and, and_true, reduceCtorEq, cond_true, cond_false, hlt', decide_true, hix, b39i, h39, b92i, h92, hwi, hlt2', hix2, hc, bne, Bool.not_false]
          | true =>
            obtain ⟨a1, σ1, g1, g2, g3⟩ := hw.app 1 (bc [t[i + 1]]) (by simp only [bc_len, List.length_cons, List.length_nil]; omega)
            rw [← bc_app] at g2
            have g1' : appV 1 1 σ [[.int .u8 (t[i + 1].toNat : Nat)]] a = some (a1, σ1) := g1
            obtain ⟨σ', f2, f3⟩ := ih (d - 2) (by omega) (i + 2) (acc ++ [t[i + 1]]) a1 σ1 (by omega) (by omega) (by simp only [List.length_append, List.length_cons, List.length_nil]; omega) g2
            refine ⟨σ', g3.step f2, ?_⟩
            have hin0 : prB t[i + 1] = true := by
              rw [Bool.or_eq_true] at hc
              rcases hc with hc | hc <;> (rw [eq_of_beq hc]; decide)
            have hin : EE X f_spec_l01In [int (t[i + 1].toNat : Nat), int 32, int 126] σ = some (.bool true, σ) := by rw [l01In_eq, ← hin0]; rfl
            have step : ∀ kk : Out → S → Option R, loopK (EE X) [0, 1, 4, 8, 12] l_spec_l02Next_0 ([(0, .v (.str t)), (1, .v (int p)), (4, .lp 4 0), (8, .v (int i)), (12, .v a)], ⟨[(4, zTok)], σ⟩) kk = loopK (EE X) [0, 1, 4, 8, 12] l_spec_l02Next_0 ([(0, .v (.str t)), (1, .v (int p)), (4, .lp 4 0), (8, .v (int ((i + 2 : Nat) : Int))), (12, .v a1)], ⟨[(4, zTok)], σ1⟩) kk := by
              intro kk
              rw [loopK_step l_spec_l02Next_0.eq_1]
              cases hc1 : t[i + 1] == 39 with
              | true => simp (config := {contextual := true, implicitDefEqProofs := false, maxSteps := 1000000}) only [
    ↓PR0, ↓PR1, ↓PR2, PO0, PO1, PO2, PO3, result, resOf, allSome, number, upd, List.map, Option.bind_some, Nat.reduceAdd, Nat.reduceSub, Nat.reduceLeDiff, Nat.reduceLT, Nat.reduceEqDiff, Nat.zero_add, Nat.add_zero, Nat.le_refl, reduceIte, 
    ne_eq, not_false_eq_true, and_self, true_and, and_true, reduceCtorEq, cond_true, cond_false, hlt', decide_true, hix, b39i, h39, b92i, h92, hwi, hlt2', hix2, hc1, hcv2, hin, bne, Bool.not_true, Bool.not_false, List.replicate_succ, 
    List.replicate_zero, List.set_cons_zero, hel, g1', hwi2]
              | false =>
                rw [hc1, Bool.false_or] at hc
                simp (config := {contextual := true, implicitDefEqProofs := false, maxSteps := 1000000}) only [
    ↓PR0, ↓PR1, ↓PR2, PO0, PO1, PO2, PO3, result, resOf, allSome, number, upd, List.map, Option.bind_some, Nat.reduceAdd, Nat.reduceSub, Nat.reduceLeDiff, Nat.reduceLT, Nat.reduceEqDiff, Nat.zero_add, Nat.add_zero, Nat.le_refl, reduceIte, 
    ne_eq, not_false_eq_true, and_self, true_and, and_true, reduceCtorEq, cond_true, cond_false, hlt', decide_true, hix, b39i, h39, b92i, h92, hwi, hlt2', hix2, hc1, hc, hcv2, hin, bne, Bool.not_true, Bool.not_false, List.replicate_succ, 
    List.replicate_zero, List.set_cons_zero, hel, g1', hwi2]
            unfold NRes at f3 ⊢
            rw [ed, ed2, qM_esc h39 h92, if_pos hc]
            have e2 : t.drop (i + 1 + 1) = t.drop (i + 2) := rfl
            rw [e2]
            cases hq : quotedM (t.drop (i + 2)) with
            | none =>
              rw [hq] at f3
              simp only [Option.map_none] at f3 ⊢
              rcases f3 with f3 | ⟨a', f3⟩
              · exact .inl fun kk => by rw [step kk]; exact f3 kk
              · exact .inr ⟨a', fun kk => by rw [step kk]; exact f3 kk⟩
            | some xu =>
              obtain ⟨x, u⟩ := xu
              rw [hq] at f3
              simp only [Option.map_some] at f3 ⊢
              obtain ⟨a', u1, u2, u3, f3⟩ := f3
              refine ⟨a', by omega, by omega, by simpa using u3, fun kk => ?_⟩
              rw [step kk, f3 kk]
              have e3 : i + 2 + (u - 1) = i + (u + 2 - 1) := by omega
              rw [e3]
        · have e1 : i + 1 = t.length := by omega
          have hlt2' : (((i + 1 : Nat) : Int) == (t.length : Int)) = true := by rw [e1]; simp
          refine ⟨σ, Fr.refl _ _, ?_⟩
          unfold NRes
          have ed2 : t.drop (i + 1) = [] := by rw [e1]; exact List.drop_length
          rw [ed, ed2, qM_esc0 h39]
          refine .inl fun kk => ?_
          dsimp only
          rw [loopK_step l_spec_l02Next_0.eq_1]
          simp (config := {contextual := true, implicitDefEqProofs := false, maxSteps := 1000000}) only [
    ↓PR0, ↓PR1, ↓PR2, PO0, PO1, PO2, PO3, result, resOf, allSome, number, upd, List.map, Option.bind_some, Nat.reduceAdd, Nat.reduceSub, Nat.reduceLeDiff, Nat.reduceLT, Nat.reduceEqDiff, Nat.zero_add, Nat.add_zero, Nat.le_refl, reduceIte, 
    ne_eq, not_false_eq_true, and_self, true_and, and_true, reduceCtorEq, cond_true, cond_false, hlt', decide_true, hix, b39i, h39, b92i, h92, hwi, hlt2', bne, Bool.not_false]
      | false =>
        have hin : EE X f_spec_l01In [int (t[i].toNat : Nat), int 32, int 126] σ = some (.bool (prB t[i]), σ) := by rw [l01In_eq]; rfl
        cases hb : prB t[i] with
        | false =>
          rw [hb] at hin
          refine ⟨σ, Fr.refl _ _, ?_⟩
          unfold NRes
          rw [ed, qM_other h39 h92, if_neg (by rw [hb]; decide)]
          refine .inl fun kk => ?_
          dsimp only
          rw [loopK_step l_spec_l02Next_0.eq_1]
          simp (config := {contextual := true, implicitDefEqProofs := false, maxSteps := 1000000}) only [
    ↓PR0, ↓PR1, ↓PR2, PO0, PO1, PO2, PO3, result, resOf, allSome, number, upd, List.map, Option.bind_some, Nat.reduceAdd, Nat.reduceSub, Nat.reduceLeDiff, Nat.reduceLT, Nat.reduceEqDiff, Nat.zero_add, Nat.add_zero, Nat.le_refl, reduceIte, 
    ne_eq, not_false_eq_true, and_self, true_and, and_true, reduceCtorEq, cond_true, cond_false, hlt', decide_true, hix, b39i, h39, b92i, h92, hcv, hin, bne, Bool.not_false]
        | true =>
          rw [hb] at hin
          obtain ⟨a1, σ1, g1, g2, g3⟩ := hw.app 1 (bc [t[i]]) (by simp only [bc_len, List.length_cons, List.length_nil]; omega)
          rw [← bc_app] at g2
          have g1' : appV 1 1 σ [[.int .u8 (t[i].toNat : Nat)]] a = some (a1, σ1) := g1
          obtain ⟨σ', f2, f3⟩ := ih (d - 1) (by omega) (i + 1) (acc ++ [t[i]]) a1 σ1 (by omega) (by omega) (by simp only [List.length_append, List.length_cons, List.length_nil]; omega) g2
          refine ⟨σ', g3.step f2, ?_⟩
          have step : ∀ kk : Out → S → Option R, loopK (EE X) [0, 1, 4, 8, 12] l_spec_l02Next_0 ([(0, .v (.str t)), (1, .v (int p)), (4, .lp 4 0), (8, .v (int i)), (12, .v a)], ⟨[(4, zTok)], σ⟩) kk = loopK (EE X) [0, 1, 4, 8, 12] l_spec_l02Next_0 ([(0, .v (.str t)), (1, .v (int p)), (4, .lp 4 0), (8, .v (int ((i + 1 : Nat) : Int))), (12, .v a1)], ⟨[(4, zTok)], σ1⟩) kk := by
            intro kk
            rw [loopK_step l_spec_l02Next_0.eq_1]
            simp (config := {contextual := true, implicitDefEqProofs := false, maxSteps := 1000000}) only [
    ↓PR0, ↓PR1, ↓PR2, PO0, PO1, PO2, PO3, result, resOf, allSome, number, upd, List.map, Option.bind_some, Nat.reduceAdd, Nat.reduceSub, Nat.reduceLeDiff, Nat.reduceLT, Nat.reduceEqDiff, Nat.zero_add, Nat.add_zero, Nat.le_refl, reduceIte, 
    ne_eq, not_false_eq_true, and_self, true_and, and_true, reduceCtorEq, cond_true, cond_false, hlt', decide_true, hix, b39i, h39, b92i, h92, hcv, hin, bne, Bool.not_true, Bool.not_false, List.replicate_succ, List.replicate_zero, 
    List.set_cons_zero, hel, g1', hwi]
          unfold NRes at f3 ⊢
          rw [ed, qM_other h39 h92, if_pos hb]
          cases hq : quotedM (t.drop (i + 1)) with
          | none =>
            rw [hq] at f3
            simp only [Option.map_none] at f3 ⊢
            rcases f3 with f3 | ⟨a', f3⟩
            · exact .inl fun kk => by rw [step kk]; exact f3 kk
            · exact .inr ⟨a', fun kk => by rw [step kk]; exact f3 kk⟩
          | some xu =>
            obtain ⟨x, u⟩ := xu
            rw [hq] at f3
            simp only [Option.map_some] at f3 ⊢
            obtain ⟨a', u1, u2, u3, f3⟩ := f3
            refine ⟨a', by omega, by omega, by simpa using u3, fun kk => ?_⟩
            rw [step kk, f3 kk]
            have e3 : i + 1 + (u - 1) = i + (u + 1 - 1) := by omega
            rw [e3]
  · have e : i = t.length := by omega
    subst e
    refine ⟨σ, Fr.refl _ _, ?_⟩
    unfold NRes
    rw [List.drop_length]
    refine .inr ⟨a, fun kk => ?_⟩
    dsimp only
    rw [loopK_step l_spec_l02Next_0.eq_1]
    simp (config := {contextual := true, implicitDefEqProofs := false, maxSteps := 1000000}) only [
    ↓PR0, ↓PR1, ↓PR2, PO0, PO1, PO2, PO3, result, resOf, allSome, number, upd, List.map, Option.bind_some, Nat.reduceAdd, Nat.reduceSub, Nat.reduceLeDiff, Nat.reduceLT, Nat.reduceEqDiff, Nat.zero_add, Nat.add_zero, Nat.le_refl, reduceIte, 
    ne_eq, not_false_eq_true, and_self, true_and, and_true, reduceCtorEq, cond_true, cond_false, Int.lt_irrefl, decide_false]
theorem num_dig {b : UInt8} {l : List UInt8} (hb : digI (b.toNat : Nat) = true) {v : Int} (h : numM (b :: l) = some v) : 0 ≤ v := by
  obtain ⟨n1, n2, n3, n4, n5⟩ := numM_some h
  by_cases hv : 0 ≤ v
  · exact hv
  · obtain ⟨u, rfl⟩ : ∃ u : Nat, v = -(u : Int) := ⟨v.natAbs, by omega⟩
    rw [itoa_neg u (by omega)] at n2
    have : b = 45 := by injection n2 with h1 h2; exact h1.symm
    subst this
    simp [digI] at hb
set_option maxHeartbeats 2000000 in
theorem l02Next_eq (t : List UInt8) (p : Nat) (hp : p < t.length) (ht : t.length ≤ 1048576) (σ : Store) : ∃ r σ', EE X f_spec_l02Next [.str t, int p] σ = some (r, σ') ∧ Pre σ σ' ∧ TokRes t p r := by
  have hp' : (p : Int) < (t.length : Int) := by omega
  have htl : t.length ≤ 9223372036854775807 := by omega
  have hix := idx_nat t hp
  have ed := List.drop_eq_getElem_cons hp
  have hl1 := l00Letter_eq (X := X) (t[p].toNat : Nat)
  have hd1 := l00Digit_eq (X := X) (t[p].toNat : Nat)
  have hwp : IntKind.i64.wrap ((p : Int) + 1) = ((p + 1 : Nat) : Int) := wrap64 (by omega) (by omega)
  have cut : ∀ n : Nat, p + n ≤ t.length → ((0 : Int) ≤ (p : Int) ∧ (p : Int) ≤ ((p + n : Nat) : Int) ∧ ((p + n : Nat) : Int) ≤ (t.length : Int)) ∧ List.take (((p + n : Nat) : Int).toNat - ((p : Nat) : Int).toNat) (List.drop ((p : Nat) : Int).toNat t) = (t.drop p).take n := by
    intro n hn
    refine ⟨by omega, ?_⟩
    rw [Int.toNat_natCast, Int.toNat_natCast]
    have : p + n - p = n := by omega
    rw [this]
  cases hl : ltrI (t[p].toNat : Nat) with
  | true =>
    rw [hl] at hl1
    have hr := fun kk : Out → S → Option (AV × Store) => nextL_loop (X := X) t p ht σ kk (t.length - (p + 1)) (p + 1) (by omega)
    have hb : ldB t[p] = true := by simp only [ldB, hl, Bool.true_or]
    have hn : p + 1 + runN ldB (t.drop (p + 1)) = p + runN ldB (t.drop p) := by rw [ed]; simp only [runN, hb, if_true]; omega
    rw [hn] at hr
    have hle := runN_le ldB (t.drop p)
    rw [List.length_drop] at hle
    obtain ⟨c1, c2⟩ := cut (runN ldB (t.drop p)) (by omega)
    have hlex : lexM (t.drop p) = if runN ldB (t.drop p) ≤ 20 then some (if wordOK ((t.drop p).take (runN ldB (t.drop p))) = true then 2 else 1, (t.drop p).take (runN ldB (t.drop p)), runN ldB (t.drop p)) else none := by
      rw [ed]
      simp only [lexM, hl, if_true]
    have hwi : IntKind.i64.wrap (((p + runN ldB (t.drop p) : Nat) : Int) - (p : Int)) = ((runN ldB (t.drop p) : Nat) : Int) := by rw [wrap64 (by omega) (by omega)]; omega
    by_cases h20 : runN ldB (t.drop p) ≤ 20
    · have h20' : ¬ (20 : Int) < ((runN ldB (t.drop p) : Nat) : Int) := by omega
      obtain ⟨σ', w1, w2⟩ := specWordOK_eq (X := X) ((t.drop p).take (runN ldB (t.drop p))) σ
      cases hw : wordOK ((t.drop p).take (runN ldB (t.drop p))) with
      | true =>
        rw [hw] at w1
        refine ⟨.tup [.agg [int 2, int p, .str ((t.drop p).take (runN ldB (t.drop p)))], int ((p + runN ldB (t.drop p) : Nat) : Int), .bool true], σ', ?_, w2, 2, p, _, _, true, rfl, ?_⟩
        · rw [EE, Ex_run C_spec_l02Next rfl]
          simp (config := {contextual := true, implicitDefEqProofs := false, maxSteps := 1000000}) only [
    ↓PR0, ↓PR1, ↓PR2, PO0, PO1, PO2, PO3, result, resOf, allSome, number, upd, List.map, Option.bind_some, Nat.reduceAdd, Nat.reduceSub, Nat.reduceLeDiff, Nat.reduceLT, Nat.reduceEqDiff, Nat.zero_add, Nat.add_zero, Nat.le_refl, reduceIte, 
    ne_eq, not_false_eq_true, and_self, true_and, and_true, reduceCtorEq, cond_true, cond_false, c_spec_l02Next, hix, hl1, hwp, hr, hwi, h20', decide_false, c1, c2, w1]
        · rw [hlex, if_pos h20, if_pos hw]
          exact ⟨rfl, rfl, rfl, rfl, rfl⟩
      | false =>
        rw [hw] at w1
        refine ⟨.tup [.agg [int 1, int p, .str ((t.drop p).take (runN ldB (t.drop p)))], int ((p + runN ldB (t.drop p) : Nat) : Int), .bool true], σ', ?_, w2, 1, p, _, _, true, rfl, ?_⟩
        · rw [EE, Ex_run C_spec_l02Next rfl]
          simp (config := {contextual := true, implicitDefEqProofs := false, maxSteps := 1000000}) only [
    ↓PR0, ↓PR1, ↓PR2, PO0, PO1, PO2, PO3, result, resOf, allSome, number, upd, List.map, Option.bind_some, Nat.reduceAdd, Nat.reduceSub, Nat.reduceLeDiff, Nat.reduceLT, Nat.reduceEqDiff, Nat.zero_add, Nat.add_zero, Nat.le_refl, reduceIte, 
    ne_eq, not_false_eq_true, and_self, true_and, and_true, reduceCtorEq, cond_true, cond_false, c_spec_l02Next, hix, hl1, hwp, hr, hwi, h20', decide_false, c1, c2, w1]
        · rw [hlex, if_pos h20, if_neg (by rw [hw]; decide)]
          exact ⟨rfl, rfl, rfl, rfl, rfl⟩
    · have h20' : (20 : Int) < ((runN ldB (t.drop p) : Nat) : Int) := by omega
      refine ⟨.tup [.agg zTok, int p, .bool false], σ, ?_, Fr.refl _ _, 0, 0, _, _, false, rfl, ?_⟩
      · rw [EE, Ex_run C_spec_l02Next rfl]
        simp (config := {contextual := true, implicitDefEqProofs := false, maxSteps := 1000000}) only [
    ↓PR0, ↓PR1, ↓PR2, PO0, PO1, PO2, PO3, result, resOf, allSome, number, upd, List.map, Option.bind_some, Nat.reduceAdd, Nat.reduceSub, Nat.reduceLeDiff, Nat.reduceLT, Nat.reduceEqDiff, Nat.zero_add, Nat.add_zero, Nat.le_refl, reduceIte, 
    ne_eq, not_false_eq_true, and_self, true_and, and_true, reduceCtorEq, cond_true, cond_false, c_spec_l02Next, hix, hl1, hwp, hr, hwi, h20', decide_true]
      · rw [hlex, if_neg h20]
  | false =>
    rw [hl] at hl1
    cases hd : digI (t[p].toNat : Nat) with
    | true =>
      rw [hd] at hd1
      have hr := fun kk : Out → S → Option (AV × Store) => nextD_loop (X := X) t p ht σ kk (t.length - (p + 1)) (p + 1) (by omega)
      have hb : digB t[p] = true := hd
      have hn : p + 1 + runN digB (t.drop (p + 1)) = p + runN digB (t.drop p) := by rw [ed]; simp only [runN, hb, if_true]; omega
      rw [hn] at hr
      have hle := runN_le digB (t.drop p)
      rw [List.length_drop] at hle
      obtain ⟨c1, c2⟩ := cut (runN digB (t.drop p)) (by omega)
      have hnum := l00Number_eq (X := X) ((t.drop p).take (runN digB (t.drop p))) (by unfold LenOk; rw [List.length_take, List.length_drop]; omega) σ
      have hlex : lexM (t.drop p) = if intM ((t.drop p).take (runN digB (t.drop p))) = true then some (3, (t.drop p).take (runN digB (t.drop p)), runN digB (t.drop p)) else none := by
        rw [ed]
        simp only [lexM, hl, hd, if_true, if_false, Bool.false_eq_true]
      cases hv : numM ((t.drop p).take (runN digB (t.drop p))) with
      | none =>
        have e3 : numV ((t.drop p).take (runN digB (t.drop p))) = (0, false) := by simp only [numV, hv]
        rw [e3] at hnum
        simp only at hnum
        refine ⟨.tup [.agg zTok, int p, .bool false], σ, ?_, Fr.refl _ _, 0, 0, _, _, false, rfl, ?_⟩
        · rw [EE, Ex_run C_spec_l02Next rfl]
          simp (config := {contextual := true, implicitDefEqProofs := false, maxSteps := 1000000}) only [
    ↓PR0, ↓PR1, ↓PR2, PO0, PO1, PO2, PO3, result, resOf, allSome, number, upd, List.map, Option.bind_some, Nat.reduceAdd, Nat.reduceSub, Nat.reduceLeDiff, Nat.reduceLT, Nat.reduceEqDiff, Nat.zero_add, Nat.add_zero, Nat.le_refl, reduceIte, 
    ne_eq, not_false_eq_true, and_self, true_and, and_true, reduceCtorEq, cond_true, cond_false, c_spec_l02Next, hix, hl1, hd1, hwp, hr, c1, c2, hnum]
        · rw [hlex, if_neg (by simp only [intM, hv]; decide)]
      | some v =>
        have e3 : numV ((t.drop p).take (runN digB (t.drop p))) = (v, true) := by simp only [numV, hv]
        rw [e3] at hnum
        simp only at hnum
        have h0 : 0 ≤ v := by
          have e4 : (t.drop p).take (runN digB (t.drop p)) = t[p] :: (t.drop (p + 1)).take (runN digB (t.drop (p + 1))) := by
            rw [ed]; simp only [runN, hb, if_true, List.take_succ_cons]
          rw [e4] at hv
          exact num_dig hd hv
        by_cases hm : v ≤ 2147483647
        · have hm' : ¬ (2147483647 : Int) < v := by omega
          refine ⟨.tup [.agg [int 3, int p, .str ((t.drop p).take (runN digB (t.drop p)))], int ((p + runN digB (t.drop p) : Nat) : Int), .bool true], σ, ?_, Fr.refl _ _, 3, p, _, _, true, rfl, ?_⟩
          · rw [EE, Ex_run C_spec_l02Next rfl]
            simp (config := {contextual := true, implicitDefEqProofs := false, maxSteps := 1000000}) only [
    ↓PR0, ↓PR1, ↓PR2, PO0, PO1, PO2, PO3, result, resOf, allSome, number, upd, List.map, Option.bind_some, Nat.reduceAdd, Nat.reduceSub, Nat.reduceLeDiff, Nat.reduceLT, Nat.reduceEqDiff, Nat.zero_add, Nat.add_zero, Nat.le_refl, reduceIte, 
    ne_eq, not_false_eq_true, and_self, true_and, and_true, reduceCtorEq, cond_true, cond_false, c_spec_l02Next, hix, hl1, hd1, hwp, hr, c1, c2, hnum, hm', decide_false]
          · rw [hlex, if_pos (by simp only [intM, hv, h0, hm, decide_true, Bool.and_self])]
            exact ⟨rfl, rfl, rfl, rfl, rfl⟩
        · have hm' : (2147483647 : Int) < v := by omega
          refine ⟨.tup [.agg zTok, int p, .bool false], σ, ?_, Fr.refl _ _, 0, 0, _, _, false, rfl, ?_⟩
          · rw [EE, Ex_run C_spec_l02Next rfl]
            simp (config := {contextual := true, implicitDefEqProofs := false, maxSteps := 1000000}) only [
    ↓PR0, ↓PR1, ↓PR2, PO0, PO1, PO2, PO3, result, resOf, allSome, number, upd, List.map, Option.bind_some, Nat.reduceAdd, Nat.reduceSub, Nat.reduceLeDiff, Nat.reduceLT, Nat.reduceEqDiff, Nat.zero_add, Nat.add_zero, Nat.le_refl, reduceIte, 
    ne_eq, not_false_eq_true, and_self, true_and, and_true, reduceCtorEq, cond_true, cond_false, c_spec_l02Next, hix, hl1, hd1, hwp, hr, c1, c2, hnum, hm', decide_true]
          · rw [hlex, if_neg (by simp only [intM, hv, h0, hm, decide_true, decide_false, Bool.and_false]; decide)]
    | false =>
      rw [hd] at hd1
      cases h39 : t[p] == 39 with
      | true =>
        have hw : OwR σ.length (σ ++ [⟨[], 1, 0, .own⟩]) 1 (bc []) (.sl σ.length 0 0 0) := OwR.new σ (bc []) 1
        obtain ⟨σ', f1, f2⟩ := nextQ_loop (X := X) (R := AV × Store) t p ht t.length (p + 1) [] _ _ (by omega) (by omega) (by simp) hw
        have hpre : Pre σ σ' := (Pre.app σ [(⟨[], 1, 0, .own⟩ : Row)]).trans f1 (fun x h1 h2 => by omega)
        have hlex : lexM (t.drop p) = match quotedM (t.drop (p + 1)) with
            | some (x, u) => if x.length ≤ 60 then some (4, x, u + 1) else none
            | none => none := by
          rw [ed]
          simp only [lexM, hl, hd, h39, if_true, if_false, Bool.false_eq_true]
          rfl
        unfold NRes at f2
        cases hq : quotedM (t.drop (p + 1)) with
        | none =>
          rw [hq] at f2 hlex
          simp only at f2 hlex
          refine ⟨.tup [.agg zTok, int p, .bool false], σ', ?_, hpre, 0, 0, _, _, false, rfl, by rw [hlex]⟩
          rw [EE, Ex_run C_spec_l02Next rfl]
          rcases f2 with f2 | ⟨a', f2⟩
          · simp (config := {contextual := true, implicitDefEqProofs := false, maxSteps := 1000000}) only [
    ↓PR0, ↓PR1, ↓PR2, PO0, PO1, PO2, PO3, result, resOf, allSome, number, upd, List.map, Option.bind_some, Nat.reduceAdd, Nat.reduceSub, Nat.reduceLeDiff, Nat.reduceLT, Nat.reduceEqDiff, Nat.zero_add, Nat.add_zero, Nat.le_refl, reduceIte, 
    ne_eq, not_false_eq_true, and_self, true_and, and_true, reduceCtorEq, cond_true, cond_false, c_spec_l02Next, hix, hl1, hd1, b39i, h39, hwp, List.replicate_zero, f2]
          · simp (config := {contextual := true, implicitDefEqProofs := false, maxSteps := 1000000}) only [
    ↓PR0, ↓PR1, ↓PR2, PO0, PO1, PO2, PO3, result, resOf, allSome, number, upd, List.map, Option.bind_some, Nat.reduceAdd, Nat.reduceSub, Nat.reduceLeDiff, Nat.reduceLT, Nat.reduceEqDiff, Nat.zero_add, Nat.add_zero, Nat.le_refl, reduceIte, 
    ne_eq, not_false_eq_true, and_self, true_and, and_true, reduceCtorEq, cond_true, cond_false, c_spec_l02Next, hix, hl1, hd1, b39i, h39, hwp, List.replicate_zero, f2, beq_self_eq_true]
        | some xu =>
          obtain ⟨x, u⟩ := xu
          rw [hq] at f2 hlex
          simp only [List.nil_append] at f2 hlex
          obtain ⟨a', u1, u2, u3, f2⟩ := f2
          have hne : (((p + 1 + (u - 1) : Nat) : Int) == (t.length : Int)) = false := by rw [beq_eq_false_iff_ne]; omega
          have hlen := u3.slAt.len
          rw [bc_len] at hlen
          have hels := fun bx => u3.slAt.els bx
          have hwk : IntKind.i64.wrap (((p + 1 + (u - 1) : Nat) : Int) + 1) = ((p + (u + 1) : Nat) : Int) := by rw [wrap64 (by omega) (by omega)]; omega
          by_cases h60 : x.length ≤ 60
          · have h60' : ¬ (60 : Int) < (x.length : Int) := by omega
            refine ⟨.tup [.agg [int 4, int p, .str x], int ((p + (u + 1) : Nat) : Int), .bool true], σ', ?_, hpre, 4, p, _, _, true, rfl, ?_⟩
            · rw [EE, Ex_run C_spec_l02Next rfl]
              simp (config := {contextual := true, implicitDefEqProofs := false, maxSteps := 1000000}) only [
    ↓PR0, ↓PR1, ↓PR2, PO0, PO1, PO2, PO3, result, resOf, allSome, number, upd, List.map, Option.bind_some, Nat.reduceAdd, Nat.reduceSub, Nat.reduceLeDiff, Nat.reduceLT, Nat.reduceEqDiff, Nat.zero_add, Nat.add_zero, Nat.le_refl, reduceIte, 
    ne_eq, not_false_eq_true, and_self, true_and, and_true, reduceCtorEq, cond_true, cond_false, c_spec_l02Next, hix, hl1, hd1, b39i, h39, hwp, List.replicate_zero, f2, hne, hlen, h60', decide_false, hels, bc_bytes, hwk]
            · rw [hlex, if_pos h60]
              exact ⟨rfl, rfl, rfl, rfl, rfl⟩
          · have h60' : (60 : Int) < (x.length : Int) := by omega
            refine ⟨.tup [.agg zTok, int p, .bool false], σ', ?_, hpre, 0, 0, _, _, false, rfl, by rw [hlex, if_neg h60]⟩
            rw [EE, Ex_run C_spec_l02Next rfl]
            simp (config := {contextual := true, implicitDefEqProofs := false, maxSteps := 1000000}) only [
    ↓PR0, ↓PR1, ↓PR2, PO0, PO1, PO2, PO3, result, resOf, allSome, number, upd, List.map, Option.bind_some, Nat.reduceAdd, Nat.reduceSub, Nat.reduceLeDiff, Nat.reduceLT, Nat.reduceEqDiff, Nat.zero_add, Nat.add_zero, Nat.le_refl, reduceIte, 
    ne_eq, not_false_eq_true, and_self, true_and, and_true, reduceCtorEq, cond_true, cond_false, c_spec_l02Next, hix, hl1, hd1, b39i, h39, hwp, List.replicate_zero, f2, hne, hlen, h60', decide_true]
      | false =>
        have hs := l02Sign_eq (X := X) t[p] σ
        have hmore := signs_more t[p]
        have h2 := sign_two t[p] (t.drop (p + 1))
        have hlex : lexM (t.drop p) = if signAt (t.drop p) = [] then none else some (5, signAt (t.drop p), (signAt (t.drop p)).length) := by
          rw [ed]
          simp only [lexM, hl, hd, h39, if_false, Bool.false_eq_true]
        rw [← ed] at h2
        have bad : signAt (t.drop p) = [] → TokRes t p (.tup [.agg zTok, int p, .bool false]) := fun h => ⟨0, 0, _, _, false, rfl, by rw [hlex, if_pos h]⟩
        have good : ∀ n w, signAt (t.drop p) = w → w ≠ [] → w.length = n → TokRes t p (.tup [.agg [int 5, int p, .str w], int ((p + n : Nat) : Int), .bool true]) := by
          intro n w h h3 h4
          subst h4
          exact ⟨5, p, _, _, true, rfl, by rw [hlex, h, if_neg h3]; exact ⟨rfl, rfl, rfl, rfl, rfl⟩⟩
        cases h17 : signs17.contains t[p] with
        | false =>
          rw [h17] at hs hmore
          have hm := hmore.symm
          simp only [Bool.or_eq_false_iff] at hm
          obtain ⟨⟨m1, m2⟩, m3⟩ := hm
          have m4 : (t[p] == 61) = false := by
            cases h : t[p] == 61 with
            | false => rfl
            | true => rw [signs_61 _ h] at m1; cases m1
          have htw : twoB t[p] (t.drop (p + 1)) = false := by
            cases t.drop (p + 1) with
            | nil => rfl
            | cons c r => simp only [twoB, m2, m3, m4, Bool.false_and, Bool.or_self]
          refine ⟨.tup [.agg zTok, int p, .bool false], σ, ?_, Fr.refl _ _, bad (by rw [h2, if_neg (by rw [htw]; decide), if_neg (by rw [m1]; decide)])⟩
          rw [EE, Ex_run C_spec_l02Next rfl]
          simp (config := {contextual := true, implicitDefEqProofs := false, maxSteps := 1000000}) only [
    ↓PR0, ↓PR1, ↓PR2, PO0, PO1, PO2, PO3, result, resOf, allSome, number, upd, List.map, Option.bind_some, Nat.reduceAdd, Nat.reduceSub, Nat.reduceLeDiff, Nat.reduceLT, Nat.reduceEqDiff, Nat.zero_add, Nat.add_zero, Nat.le_refl, reduceIte, 
    ne_eq, not_false_eq_true, and_self, true_and, and_true, reduceCtorEq, cond_true, cond_false, c_spec_l02Next, hix, hl1, hd1, b39i, h39, hwp, hs]
        | true =>
          rw [h17] at hs
          obtain ⟨k1, k2⟩ := cut 1 (by omega)
          have e1 : (t.drop p).take 1 = [t[p]] := by rw [ed]; rfl
          rw [e1] at k2
          by_cases hlt2 : p + 1 < t.length
          · have hlt2' : ((p + 1 : Nat) : Int) < (t.length : Int) := by omega
            have hix2 := idx_nat t hlt2
            have ed2 := List.drop_eq_getElem_cons hlt2
            obtain ⟨j1, j2⟩ := cut 2 (by omega)
            have e2 : (t.drop p).take 2 = [t[p], t[p + 1]] := by rw [ed, ed2]; rfl
            rw [e2] at j2
            have hwk : IntKind.i64.wrap (((p + 1 : Nat) : Int) + 1) = ((p + 2 : Nat) : Int) := wrap64 (by omega) (by omega)
            have htw : twoB t[p] (t.drop (p + 1)) = ((t[p] == 61 && t[p + 1] == 61) || (t[p] == 38 && t[p + 1] == 38) || (t[p] == 124 && t[p + 1] == 124)) := by rw [ed2]; rfl
            have two : ∀ b : UInt8, t[p] = b → t[p + 1] = b → twoB t[p] (t.drop (p + 1)) = true → TokRes t p (.tup [.agg [int 5, int p, .str [t[p], t[p + 1]]], int ((p + 2 : Nat) : Int), .bool true]) := by
              intro b q1 q2 q3
              exact good 2 _ (by rw [h2, if_pos q3, q1, q2]) (by simp) rfl
            cases a61 : t[p] == 61 with
            | true =>
              have a38 : (t[p] == 38) = false := by rw [eq_of_beq a61]; rfl
              have a124 : (t[p] == 124) = false := by rw [eq_of_beq a61]; rfl
              cases c61 : t[p + 1] == 61 with
              | true =>
                refine ⟨_, σ, ?_, Fr.refl _ _, two 61 (eq_of_beq a61) (eq_of_beq c61) (by rw [htw, a61, c61]; rfl)⟩
                rw [EE, Ex_run C_spec_l02Next rfl]
                simp (config := {contextual := true, implicitDefEqProofs := false, maxSteps := 1000000}) only [
    ↓PR0, ↓PR1, ↓PR2, PO0, PO1, PO2, PO3, result, resOf, allSome, number, upd, List.map, Option.bind_some, Nat.reduceAdd, Nat.reduceSub, Nat.reduceLeDiff, Nat.reduceLT, Nat.reduceEqDiff, Nat.zero_add, Nat.add_zero, Nat.le_refl, reduceIte, 
    ne_eq, not_false_eq_true, and_self, true_and, and_true, reduceCtorEq, cond_true, cond_false, c_spec_l02Next, hix, hl1, hd1, b39i, h39, hwp, hs, hlt2', decide_true, b61i, a61, hix2, c61, hwk, j1, j2]
              | false =>
                refine ⟨_, σ, ?_, Fr.refl _ _, good 1 [t[p]] (by rw [h2, htw, a61, c61, a38, a124, if_neg (by simp), if_pos (signs_61 _ a61)]) (by simp) rfl⟩
                rw [EE, Ex_run C_spec_l02Next rfl]
                simp (config := {contextual := true, implicitDefEqProofs := false, maxSteps := 1000000}) only [
    ↓PR0, ↓PR1, ↓PR2, PO0, PO1, PO2, PO3, result, resOf, allSome, number, upd, List.map, Option.bind_some, Nat.reduceAdd, Nat.reduceSub, Nat.reduceLeDiff, Nat.reduceLT, Nat.reduceEqDiff, Nat.zero_add, Nat.add_zero, Nat.le_refl, reduceIte, 
    ne_eq, not_false_eq_true, and_self, true_and, and_true, reduceCtorEq, cond_true, cond_false, c_spec_l02Next, hix, hl1, hd1, b39i, h39, hwp, hs, hlt2', decide_true, b61i, a61, hix2, c61, b38i, a38, b124i, a124, k1, k2]
            | false =>
              cases a38 : t[p] == 38 with
              | true =>
                have a124 : (t[p] == 124) = false := by rw [eq_of_beq a38]; rfl
                cases c38 : t[p + 1] == 38 with
                | true =>
                  refine ⟨_, σ, ?_, Fr.refl _ _, two 38 (eq_of_beq a38) (eq_of_beq c38) (by rw [htw, a61, a38, c38]; rfl)⟩
                  rw [EE, Ex_run C_spec_l02Next rfl]
                  simp (config := {contextual := true, implicitDefEqProofs := false, maxSteps := 1000000}) only [
    ↓PR0, ↓PR1, ↓PR2, PO0, PO1, PO2, PO3, result, resOf, allSome, number, upd, List.map, Option.bind_some, Nat.reduceAdd, Nat.reduceSub, Nat.reduceLeDiff, Nat.reduceLT, Nat.reduceEqDiff, Nat.zero_add, Nat.add_zero, Nat.le_refl, reduceIte, 
    ne_eq, not_false_eq_true, and_self, true_and, and_true, reduceCtorEq, cond_true, cond_false, c_spec_l02Next, hix, hl1, hd1, b39i, h39, hwp, hs, hlt2', decide_true, b61i, a61, hix2, b38i, a38, c38, hwk, j1, j2]
                | false =>
                  refine ⟨_, σ, ?_, Fr.refl _ _, bad (by rw [h2, htw, a61, c38, a38, a124, if_neg (by simp), if_neg (by rw [signs_38 _ (by rw [a38]; rfl)]; decide)])⟩
                  rw [EE, Ex_run C_spec_l02Next rfl]
                  simp (config := {contextual := true, implicitDefEqProofs := false, maxSteps := 1000000}) only [
    ↓PR0, ↓PR1, ↓PR2, PO0, PO1, PO2, PO3, result, resOf, allSome, number, upd, List.map, Option.bind_some, Nat.reduceAdd, Nat.reduceSub, Nat.reduceLeDiff, Nat.reduceLT, Nat.reduceEqDiff, Nat.zero_add, Nat.add_zero, Nat.le_refl, reduceIte, 
    ne_eq, not_false_eq_true, and_self, true_and, and_true, reduceCtorEq, cond_true, cond_false, c_spec_l02Next, hix, hl1, hd1, b39i, h39, hwp, hs, hlt2', decide_true, b61i, a61, hix2, b38i, a38, c38, b124i, a124]
              | false =>
                cases a124 : t[p] == 124 with
                | true =>
                  cases c124 : t[p + 1] == 124 with
                  | true =>
                    refine ⟨_, σ, ?_, Fr.refl _ _, two 124 (eq_of_beq a124) (eq_of_beq c124) (by rw [htw, a61, a38, a124, c124]; rfl)⟩
                    rw [EE, Ex_run C_spec_l02Next rfl]
                    simp (config := {contextual := true, implicitDefEqProofs := false, maxSteps := 1000000}) only [
    ↓PR0, ↓PR1, ↓PR2, PO0, PO1, PO2, PO3, result, resOf, allSome, number, upd, List.map, Option.bind_some, Nat.reduceAdd, Nat.reduceSub, Nat.reduceLeDiff, Nat.reduceLT, Nat.reduceEqDiff, Nat.zero_add, Nat.add_zero, Nat.le_refl, reduceIte, 
    ne_eq, not_false_eq_true, and_self, true_and, and_true, reduceCtorEq, cond_true, cond_false, c_spec_l02Next, hix, hl1, hd1, b39i, h39, hwp, hs, hlt2', decide_true, b61i, a61, hix2, b38i, a38, b124i, a124, c124, hwk, j1, j2]
                  | false =>
                    refine ⟨_, σ, ?_, Fr.refl _ _, bad (by rw [h2, htw, a61, a38, a124, c124, if_neg (by simp), if_neg (by rw [signs_38 _ (by rw [a124, Bool.or_true])]; decide)])⟩
                    rw [EE, Ex_run C_spec_l02Next rfl]
                    simp (config := {contextual := true, implicitDefEqProofs := false, maxSteps := 1000000}) only [
    ↓PR0, ↓PR1, ↓PR2, PO0, PO1, PO2, PO3, result, resOf, allSome, number, upd, List.map, Option.bind_some, Nat.reduceAdd, Nat.reduceSub, Nat.reduceLeDiff, Nat.reduceLT, Nat.reduceEqDiff, Nat.zero_add, Nat.add_zero, Nat.le_refl, reduceIte, 
    ne_eq, not_false_eq_true, and_self, true_and, and_true, reduceCtorEq, cond_true, cond_false, c_spec_l02Next, hix, hl1, hd1, b39i, h39, hwp, hs, hlt2', decide_true, b61i, a61, hix2, b38i, a38, b124i, a124, c124]
                | false =>
                  have h15 : signs15.contains t[p] = true := by rw [h17, a38, a124, Bool.or_false, Bool.or_false] at hmore; exact hmore.symm
                  refine ⟨_, σ, ?_, Fr.refl _ _, good 1 [t[p]] (by rw [h2, htw, a61, a38, a124, if_neg (by simp), if_pos h15]) (by simp) rfl⟩
                  rw [EE, Ex_run C_spec_l02Next rfl]
                  simp (config := {contextual := true, implicitDefEqProofs := false, maxSteps := 1000000}) only [
    ↓PR0, ↓PR1, ↓PR2, PO0, PO1, PO2, PO3, result, resOf, allSome, number, upd, List.map, Option.bind_some, Nat.reduceAdd, Nat.reduceSub, Nat.reduceLeDiff, Nat.reduceLT, Nat.reduceEqDiff, Nat.zero_add, Nat.add_zero, Nat.le_refl, reduceIte, 
    ne_eq, not_false_eq_true, and_self, true_and, and_true, reduceCtorEq, cond_true, cond_false, c_spec_l02Next, hix, hl1, hd1, b39i, h39, hwp, hs, hlt2', decide_true, b61i, a61, b38i, a38, b124i, a124, k1, k2]
          · have hlt2' : ¬ ((p + 1 : Nat) : Int) < (t.length : Int) := by omega
            have ed2 : t.drop (p + 1) = [] := List.drop_eq_nil_of_le (by omega)
            have htw : twoB t[p] (t.drop (p + 1)) = false := by rw [ed2]; rfl
            cases a38 : (t[p] == 38 || t[p] == 124) with
            | true =>
              refine ⟨_, σ, ?_, Fr.refl _ _, bad (by rw [h2, htw, if_neg (by decide), if_neg (by rw [signs_38 _ a38]; decide)])⟩
              rw [EE, Ex_run C_spec_l02Next rfl]
              cases b38 : t[p] == 38 with
              | true => simp (config := {contextual := true, implicitDefEqProofs := false, maxSteps := 1000000}) only [
    ↓PR0, ↓PR1, ↓PR2, PO0, PO1, PO2, PO3, result, resOf, allSome, number, upd, List.map, Option.bind_some, Nat.reduceAdd, Nat.reduceSub, Nat.reduceLeDiff, Nat.reduceLT, Nat.reduceEqDiff, Nat.zero_add, Nat.add_zero, Nat.le_refl, reduceIte, 
    ne_eq, not_false_eq_true, and_self, true_and, and_true, reduceCtorEq, cond_true, cond_false, c_spec_l02Next, hix, hl1, hd1, b39i, h39, hwp, hs, hlt2', decide_false, b38i, b38]
              | false =>
                rw [b38, Bool.false_or] at a38
                simp (config := {contextual := true, implicitDefEqProofs := false, maxSteps := 1000000}) only [
    ↓PR0, ↓PR1, ↓PR2, PO0, PO1, PO2, PO3, result, resOf, allSome, number, upd, List.map, Option.bind_some, Nat.reduceAdd, Nat.reduceSub, Nat.reduceLeDiff, Nat.reduceLT, Nat.reduceEqDiff, Nat.zero_add, Nat.add_zero, Nat.le_refl, reduceIte, 
    ne_eq, not_false_eq_true, and_self, true_and, and_true, reduceCtorEq, cond_true, cond_false, c_spec_l02Next, hix, hl1, hd1, b39i, h39, hwp, hs, hlt2', decide_false, b38i, b38, b124i, a38]
            | false =>
              rw [Bool.or_eq_false_iff] at a38
              have h15 : signs15.contains t[p] = true := by rw [h17, a38.1, a38.2, Bool.or_false, Bool.or_false] at hmore; exact hmore.symm
              refine ⟨_, σ, ?_, Fr.refl _ _, good 1 [t[p]] (by rw [h2, htw, if_neg (by decide), if_pos h15]) (by simp) rfl⟩
              rw [EE, Ex_run C_spec_l02Next rfl]
              simp (config := {contextual := true, implicitDefEqProofs := false, maxSteps := 1000000}) only [
    ↓PR0, ↓PR1, ↓PR2, PO0, PO1, PO2, PO3, result, resOf, allSome, number, upd, List.map, Option.bind_some, Nat.reduceAdd, Nat.reduceSub, Nat.reduceLeDiff, Nat.reduceLT, Nat.reduceEqDiff, Nat.zero_add, Nat.add_zero, Nat.le_refl, reduceIte, 
    ne_eq, not_false_eq_true, and_self, true_and, and_true, reduceCtorEq, cond_true, cond_false, c_spec_l02Next, hix, hl1, hd1, b39i, h39, hwp, hs, hlt2', decide_false, b38i, a38, b124i, k1, k2]
end Go.X
