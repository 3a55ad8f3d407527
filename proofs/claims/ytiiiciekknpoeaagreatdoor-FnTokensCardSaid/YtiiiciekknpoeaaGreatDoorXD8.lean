/- Reading tokens: what stands between quotes. -/
import Derived.Test.YtiiiciekknpoeaaGreatDoorXD6
set_option linter.unusedVariables false
set_option linter.unusedSimpArgs false
set_option maxRecDepth 20000
namespace Go.X
open Go Go.Lib
variable {X : Call}

/-- What stands between quotes, from behind the first: the text, and how many bytes were read, the closing quote too. -/
def quotedM : List UInt8 → Option (List UInt8 × Nat)
  | [] => none
  | [b] => if b == 39 then some ([], 1) else none
  | b :: c :: r =>
    if b == 39 then some ([], 1)
    else if b == 92 then
      if c == 39 || c == 92 then (quotedM r).map fun x => (c :: x.1, x.2 + 2) else none
    else if prB b then (quotedM (c :: r)).map fun x => (b :: x.1, x.2 + 1) else none
theorem qM_quote {b : UInt8} (h : (b == 39) = true) (r : List UInt8) : quotedM (b :: r) = some ([], 1) := by
  cases r <;> simp [quotedM, h]
theorem qM_esc0 {b : UInt8} (h : (b == 39) = false) : quotedM [b] = none := by simp [quotedM, h]
theorem qM_esc {b c : UInt8} (h : (b == 39) = false) (h2 : (b == 92) = true) (r : List UInt8) : quotedM (b :: c :: r) = if (c == 39 || c == 92) = true then (quotedM r).map fun x => (c :: x.1, x.2 + 2) else none := by
  simp [quotedM, h, h2]
theorem qM_other {b : UInt8} (h : (b == 39) = false) (h2 : (b == 92) = false) (r : List UInt8) : quotedM (b :: r) = if prB b = true then (quotedM r).map fun x => (b :: x.1, x.2 + 1) else none := by
  cases r with
  | nil => simp [quotedM, h]
  | cons c r => simp [quotedM, h, h2]
def QRes (t : List UInt8) (i : Nat) (acc : List UInt8) (σ' : Store) {R : Type} (L : (Out → S → Option R) → Option R) : Prop :=
  match quotedM (t.drop i) with
  | some (x, u) => ∀ kk, L kk = kk .ret ([(4, .v (.str (acc ++ x))), (5, .v (int ((i + u : Nat) : Int))), (6, .v (.bool (decide (((acc ++ x).length : Int) ≤ 60))))], ⟨[], σ'⟩)
  | none => (∀ kk, L kk = kk .ret ([(4, .v (.str [])), (5, .v (int 0)), (6, .v (.bool false))], ⟨[], σ'⟩)) ∨ ∃ a', ∀ kk, L kk = kk (.exit 0) ([(0, .v (.str t)), (7, .v a'), (8, .v (int t.length)), (26, .v (.bool false))], ⟨[], σ'⟩)
theorem prB_lt (b : UInt8) : prB b = !(decide (((b.toNat : Nat) : Int) < 32) || decide ((126 : Int) < ((b.toNat : Nat) : Int))) := by
  rw [Bool.eq_iff_iff]
  simp only [prB, Bool.and_eq_true, decide_eq_true_eq, Bool.not_eq_true', Bool.or_eq_false_iff, decide_eq_false_iff_not]
  omega
set_option maxHeartbeats 1000000 in
theorem quoted_loop {R : Type} {q : Nat} (t : List UInt8) (ht : t.length ≤ 1048576) : ∀ d i acc a σ, i ≤ t.length → t.length ≤ i + d → acc.length ≤ i → OwR q σ 1 (bc acc) a →
    ∃ σ', Fr (fun r => r = q) σ σ' ∧ QRes t i acc σ' (R := R) (fun kk => loopK (EE X) [0, 7, 8] l_impl_quoted_0 ([(0, .v (.str t)), (7, .v a), (8, .v (int i))], ⟨[], σ⟩) kk) := by
  intro d
  induction d using Nat.strongRecOn with
  | _ d ih =>
  intro i acc a σ hi hd hacc hw
  have hel : ∀ (x : AV) M, elsOf M 1 (.ls [[x]]) = some [[x]] := fun _ _ => rfl
  by_cases hlt : i < t.length
  · have hlt' : (i : Int) < (t.length : Int) := by omega
    have hwi : IntKind.i64.wrap ((i : Int) + 1) = ((i + 1 : Nat) : Int) := wrap64 (by omega) (by omega)
    have hix := idx_nat t hlt
    have hels := fun bx => hw.slAt.els bx
    have hlen := hw.slAt.len
    rw [bc_len] at hlen
    have ed := List.drop_eq_getElem_cons hlt
    cases h39 : t[i] == 39 with
    | true =>
      refine ⟨σ, Fr.refl _ _, ?_⟩
      unfold QRes
      rw [ed, qM_quote h39]
      simp only [List.append_nil]
      intro kk
      rw [loopK_step l_impl_quoted_0.eq_1]
      simp (config := {contextual := true, implicitDefEqProofs := false, maxSteps := 1000000}) only [
    ↓PR0, ↓PR1, ↓PR2, PO0, PO1, PO2, PO3, result, resOf, allSome, number, upd, List.map, Option.bind_some, Nat.reduceAdd, Nat.reduceSub, Nat.reduceLeDiff, Nat.reduceLT, Nat.reduceEqDiff, Nat.zero_add, Nat.add_zero, Nat.le_refl, reduceIte, 
    ne_eq, not_false_eq_true, and_self, true_and, and_true, reduceCtorEq, cond_true, cond_false, hlt', decide_true, hix, b39i, h39, hels, bc_bytes, hlen, hwi]
    | false =>
      cases h92 : t[i] == 92 with
      | true =>
        by_cases hlt2 : i + 1 < t.length
        · have hlt2' : (((i + 1 : Nat) : Int) == (t.length : Int)) = false := by rw [beq_eq_false_iff_ne]; omega
          have hix2 := idx_nat t hlt2
          have ed2 := List.drop_eq_getElem_cons hlt2
          have hwi2 : IntKind.i64.wrap (((i + 1 : Nat) : Int) + 1) = ((i + 2 : Nat) : Int) := wrap64 (by omega) (by omega)
          cases hc : (t[i + 1] == 39 || t[i + 1] == 92) with
          | false =>
            refine ⟨σ, Fr.refl _ _, ?_⟩
            unfold QRes
            rw [ed, ed2, qM_esc h39 h92, if_neg (by rw [hc]; decide)]
            refine .inl fun kk => ?_
            dsimp only
            rw [Bool.or_eq_false_iff] at hc
            rw [loopK_step l_impl_quoted_0.eq_1]
            simp (config := {contextual := true, implicitDefEqProofs := false, maxSteps := 1000000}) only [
    ↓PR0, ↓PR1, ↓PR2, PO0, PO1, PO2, PO3, result, resOf, allSome, number, upd, List.map, Option.bind_some, Nat.reduceAdd, Nat.reduceSub, Nat.reduceLeDiff, Nat.reduceLT, Nat.reduceEqDiff, Nat.zero_add, Nat.add_zero, Nat.le_refl, reduceIte, 
    ne_eq, not_false_eq_true, and_self, true_and, and_true, reduceCtorEq, cond_true, cond_false, hlt', decide_true, hix, b39i, h39, b92i, h92, hwi, hlt2', hix2, hc, bne, Bool.not_false]
          | true =>
            obtain ⟨a1, σ1, g1, g2, g3⟩ := hw.app 1 (bc [t[i + 1]]) (by simp only [bc_len, List.length_cons, List.length_nil]; omega)
            rw [← bc_app] at g2
            have g1' : appV 1 1 σ [[.int .u8 (t[i + 1].toNat : Nat)]] a = some (a1, σ1) := g1
            obtain ⟨σ', f2, f3⟩ := ih (d - 2) (by omega) (i + 2) (acc ++ [t[i + 1]]) a1 σ1 (by omega) (by omega) (by simp only [List.length_append, List.length_cons, List.length_nil]; omega) g2
            refine ⟨σ', g3.step f2, ?_⟩
            have step : ∀ kk : Out → S → Option R, loopK (EE X) [0, 7, 8] l_impl_quoted_0 ([(0, .v (.str t)), (7, .v a), (8, .v (int i))], ⟨[], σ⟩) kk = loopK (EE X) [0, 7, 8] l_impl_quoted_0 ([(0, .v (.str t)), (7, .v a1), (8, .v (int ((i + 2 : Nat) : Int)))], ⟨[], σ1⟩) kk := by
              intro kk
              rw [loopK_step l_impl_quoted_0.eq_1]
              cases hc1 : t[i + 1] == 39 with
              | true => simp (config := {contextual := true, implicitDefEqProofs := false, maxSteps := 1000000}) only [
    ↓PR0, ↓PR1, ↓PR2, PO0, PO1, PO2, PO3, result, resOf, allSome, number, upd, List.map, Option.bind_some, Nat.reduceAdd, Nat.reduceSub, Nat.reduceLeDiff, Nat.reduceLT, Nat.reduceEqDiff, Nat.zero_add, Nat.add_zero, Nat.le_refl, reduceIte, 
    ne_eq, not_false_eq_true, and_self, true_and, and_true, reduceCtorEq, cond_true, cond_false, hlt', decide_true, hix, b39i, h39, b92i, h92, hwi, hlt2', hix2, hc1, bne, Bool.not_true, List.replicate_succ, List.replicate_zero, 
    List.set_cons_zero, hel, g1', hwi2]
              | false =>
                rw [hc1, Bool.false_or] at hc
                simp (config := {contextual := true, implicitDefEqProofs := false, maxSteps := 1000000}) only [
    ↓PR0, ↓PR1, ↓PR2, PO0, PO1, PO2, PO3, result, resOf, allSome, number, upd, List.map, Option.bind_some, Nat.reduceAdd, Nat.reduceSub, Nat.reduceLeDiff, Nat.reduceLT, Nat.reduceEqDiff, Nat.zero_add, Nat.add_zero, Nat.le_refl, reduceIte, 
    ne_eq, not_false_eq_true, and_self, true_and, and_true, reduceCtorEq, cond_true, cond_false, hlt', decide_true, hix, b39i, h39, b92i, h92, hwi, hlt2', hix2, hc1, hc, bne, Bool.not_true, Bool.not_false, List.replicate_succ, 
    List.replicate_zero, List.set_cons_zero, hel, g1', hwi2]
            unfold QRes at f3 ⊢
            rw [ed, ed2, qM_esc h39 h92, if_pos hc]
            have e2 : t.drop (i + 1 + 1) = t.drop (i + 2) := rfl
            rw [e2]
            cases hq : quotedM (t.drop (i + 2)) with
            | none =>
              rw [hq] at f3
              simp only [Option.map_none] at f3 ⊢
              rcases f3 with f3 | ⟨a', f3⟩
              · exact .inl fun kk => by rw [step kk]; exact f3 kk
              · exact .inr ⟨a', fun kk => by rw [step kk]; exact f3 kk⟩
            | some xu =>
              obtain ⟨x, u⟩ := xu
              rw [hq] at f3
              simp only [Option.map_some] at f3 ⊢
              intro kk
              rw [step kk, f3 kk]
              have e3 : i + 2 + u = i + (u + 2) := by omega
              rw [e3, List.append_assoc]
              rfl
        · have e1 : i + 1 = t.length := by omega
          have hlt2' : (((i + 1 : Nat) : Int) == (t.length : Int)) = true := by rw [e1]; simp
          refine ⟨σ, Fr.refl _ _, ?_⟩
          unfold QRes
          have ed2 : t.drop (i + 1) = [] := by rw [e1]; exact List.drop_length
          rw [ed, ed2, qM_esc0 h39]
          refine .inl fun kk => ?_
          dsimp only
          rw [loopK_step l_impl_quoted_0.eq_1]
          simp (config := {contextual := true, implicitDefEqProofs := false, maxSteps := 1000000}) only [
    ↓PR0, ↓PR1, ↓PR2, PO0, PO1, PO2, PO3, result, resOf, allSome, number, upd, List.map, Option.bind_some, Nat.reduceAdd, Nat.reduceSub, Nat.reduceLeDiff, Nat.reduceLT, Nat.reduceEqDiff, Nat.zero_add, Nat.add_zero, Nat.le_refl, reduceIte, 
    ne_eq, not_false_eq_true, and_self, true_and, and_true, reduceCtorEq, cond_true, cond_false, hlt', decide_true, hix, b39i, h39, b92i, h92, hwi, hlt2']
      | false =>
        have hpr := prB_lt t[i]
        cases hb : prB t[i] with
        | false =>
          refine ⟨σ, Fr.refl _ _, ?_⟩
          unfold QRes
          rw [ed, qM_other h39 h92, if_neg (by rw [hb]; decide)]
          refine .inl fun kk => ?_
          dsimp only
          rw [hb] at hpr
          rw [loopK_step l_impl_quoted_0.eq_1]
          cases h32 : decide (((t[i].toNat : Nat) : Int) < 32) with
          | true => simp (config := {contextual := true, implicitDefEqProofs := false, maxSteps := 1000000}) only [
    ↓PR0, ↓PR1, ↓PR2, PO0, PO1, PO2, PO3, result, resOf, allSome, number, upd, List.map, Option.bind_some, Nat.reduceAdd, Nat.reduceSub, Nat.reduceLeDiff, Nat.reduceLT, Nat.reduceEqDiff, Nat.zero_add, Nat.add_zero, Nat.le_refl, reduceIte, 
    ne_eq, not_false_eq_true, and_self, true_and, and_true, reduceCtorEq, cond_true, cond_false, hlt', decide_true, hix, b39i, h39, b92i, h92, h32]
          | false =>
            have h126 : decide ((126 : Int) < ((t[i].toNat : Nat) : Int)) = true := by rw [h32, Bool.false_or] at hpr; simpa using hpr
            simp (config := {contextual := true, implicitDefEqProofs := false, maxSteps := 1000000}) only [
    ↓PR0, ↓PR1, ↓PR2, PO0, PO1, PO2, PO3, result, resOf, allSome, number, upd, List.map, Option.bind_some, Nat.reduceAdd, Nat.reduceSub, Nat.reduceLeDiff, Nat.reduceLT, Nat.reduceEqDiff, Nat.zero_add, Nat.add_zero, Nat.le_refl, reduceIte, 
    ne_eq, not_false_eq_true, and_self, true_and, and_true, reduceCtorEq, cond_true, cond_false, hlt', decide_true, hix, b39i, h39, b92i, h92, h32, h126]
        | true =>
          obtain ⟨a1, σ1, g1, g2, g3⟩ := hw.app 1 (bc [t[i]]) (by simp only [bc_len, List.length_cons, List.length_nil]; omega)
          rw [← bc_app] at g2
          have g1' : appV 1 1 σ [[.int .u8 (t[i].toNat : Nat)]] a = some (a1, σ1) := g1
          obtain ⟨σ', f2, f3⟩ := ih (d - 1) (by omega) (i + 1) (acc ++ [t[i]]) a1 σ1 (by omega) (by omega) (by simp only [List.length_append, List.length_cons, List.length_nil]; omega) g2
          refine ⟨σ', g3.step f2, ?_⟩
          rw [hb] at hpr
          have h32 : decide (((t[i].toNat : Nat) : Int) < 32) = false := by
            cases h : decide (((t[i].toNat : Nat) : Int) < 32) with
            | false => rfl
            | true => rw [h] at hpr; simp at hpr
          have h126 : decide ((126 : Int) < ((t[i].toNat : Nat) : Int)) = false := by rw [h32, Bool.false_or] at hpr; simpa using hpr
          have step : ∀ kk : Out → S → Option R, loopK (EE X) [0, 7, 8] l_impl_quoted_0 ([(0, .v (.str t)), (7, .v a), (8, .v (int i))], ⟨[], σ⟩) kk = loopK (EE X) [0, 7, 8] l_impl_quoted_0 ([(0, .v (.str t)), (7, .v a1), (8, .v (int ((i + 1 : Nat) : Int)))], ⟨[], σ1⟩) kk := by
            intro kk
            rw [loopK_step l_impl_quoted_0.eq_1]
            simp (config := {contextual := true, implicitDefEqProofs := false, maxSteps := 1000000}) only [
    ↓PR0, ↓PR1, ↓PR2, PO0, PO1, PO2, PO3, result, resOf, allSome, number, upd, List.map, Option.bind_some, Nat.reduceAdd, Nat.reduceSub, Nat.reduceLeDiff, Nat.reduceLT, Nat.reduceEqDiff, Nat.zero_add, Nat.add_zero, Nat.le_refl, reduceIte, 
    ne_eq, not_false_eq_true, and_self, true_and, and_true, reduceCtorEq, cond_true, cond_false, hlt', decide_true, hix, b39i, h39, b92i, h92, h32, h126, List.replicate_succ, List.replicate_zero, List.set_cons_zero, hel, g1', hwi]
          unfold QRes at f3 ⊢
          rw [ed, qM_other h39 h92, if_pos hb]
          cases hq : quotedM (t.drop (i + 1)) with
          | none =>
            rw [hq] at f3
            simp only [Option.map_none] at f3 ⊢
            rcases f3 with f3 | ⟨a', f3⟩
            · exact .inl fun kk => by rw [step kk]; exact f3 kk
            · exact .inr ⟨a', fun kk => by rw [step kk]; exact f3 kk⟩
          | some xu =>
            obtain ⟨x, u⟩ := xu
            rw [hq] at f3
            simp only [Option.map_some] at f3 ⊢
            intro kk
            rw [step kk, f3 kk]
            have e3 : i + 1 + u = i + (u + 1) := by omega
            rw [e3, List.append_assoc]
            rfl
  · have e : i = t.length := by omega
    subst e
    refine ⟨σ, Fr.refl _ _, ?_⟩
    unfold QRes
    rw [List.drop_length]
    refine .inr ⟨a, fun kk => ?_⟩
    dsimp only
    rw [loopK_step l_impl_quoted_0.eq_1]
    simp (config := {contextual := true, implicitDefEqProofs := false, maxSteps := 1000000}) only [
    ↓PR0, ↓PR1, ↓PR2, PO0, PO1, PO2, PO3, result, resOf, allSome, number, upd, List.map, Option.bind_some, Nat.reduceAdd, Nat.reduceSub, Nat.reduceLeDiff, Nat.reduceLT, Nat.reduceEqDiff, Nat.zero_add, Nat.add_zero, Nat.le_refl, reduceIte, 
    ne_eq, not_false_eq_true, and_self, true_and, and_true, reduceCtorEq, cond_true, cond_false, Int.lt_irrefl, decide_false]
end Go.X
