/- Tokens: quotes. -/
import Derived.Test.YtfifhpmcbfeadaaGreatDoorXD5
import Derived.Test.YtfifhpmcbfeadaaGreatDoorXV0
import Derived.Test.YtfifhpmcbfeadaaGreatDoorY6
set_option linter.unusedVariables false
set_option linter.unusedSimpArgs false
set_option maxRecDepth 20000
namespace Go.X
open Go Go.Lib
variable {X : Call}

theorem bcs_all (σ : Store) : ∀ t : List UInt8, All2 (RByte σ) t (bc t) := fun t => All2.map (fun b _ => rfl)
theorem esc_cons (b : UInt8) (l : List UInt8) : (b :: l).flatMap escB = escB b ++ l.flatMap escB := List.flatMap_cons
theorem specQuote_loop {R : Type} {q : Nat} (t : List UInt8) (ht : t.length ≤ 1048576) : ∀ d i acc a σ, i + d = t.length → acc.length ≤ 2 * i + 1 → OwR q σ 1 (bc acc) a →
    ∃ a' σ', OwR q σ' 1 (bc (acc ++ (t.drop i).flatMap escB)) a' ∧ Fr (fun r => r = q) σ σ' ∧ ∀ kk : Out → S → Option R,
    loopK (EE X) [0, 3, 4] l_spec_l02Quote_0 ([(0, .v (.str t)), (3, .v a), (4, .v (int i))], ⟨[], σ⟩) kk =
      kk (.exit 0) ([(0, .v (.str t)), (3, .v a'), (4, .v (int t.length)), (9, .v (.bool false))], ⟨[], σ'⟩) := by
  intro d
  induction d with
  | zero =>
    intro i acc a σ hi hacc hw
    have e : i = t.length := by omega
    subst e
    refine ⟨a, σ, by simpa using hw, Fr.refl _ _, fun kk => ?_⟩
    rw [loopK_step l_spec_l02Quote_0.eq_1]
    simp (config := {contextual := true, implicitDefEqProofs := false, maxSteps := 1000000}) only [
    ↓PR0, ↓PR1, ↓PR2, PO0, PO1, PO2, PO3, result, resOf, allSome, number, upd, List.map, Option.bind_some, Nat.reduceAdd, Nat.reduceSub, Nat.reduceLeDiff, Nat.reduceLT, Nat.reduceEqDiff, Nat.zero_add, Nat.add_zero, Nat.le_refl, reduceIte, 
    ne_eq, not_false_eq_true, and_self, true_and, and_true, reduceCtorEq, cond_true, cond_false, Int.lt_irrefl, decide_false]
  | succ d ih =>
    intro i acc a σ hi hacc hw
    have hlt : i < t.length := by omega
    have hlt' : (i : Int) < (t.length : Int) := by omega
    have hwi : IntKind.i64.wrap ((i : Int) + 1) = ((i + 1 : Nat) : Int) := wrap64 (by omega) (by omega)
    have hix := idx_nat t hlt
    have hel : ∀ (x : AV) M, elsOf M 1 (.ls [[x]]) = some [[x]] := fun _ _ => rfl
    have hfin : escB t[i] = [t[i]] → ∃ a' σ', OwR q σ' 1 (bc (acc ++ (t.drop i).flatMap escB)) a' ∧ Fr (fun r => r = q) σ σ' ∧ ∃ a1 σ1, appV 1 1 σ [[.int .u8 (t[i].toNat : Nat)]] a = some (a1, σ1) ∧ ∀ kk : Out → S → Option R,
        loopK (EE X) [0, 3, 4] l_spec_l02Quote_0 ([(0, .v (.str t)), (3, .v a1), (4, .v (int ((i + 1 : Nat) : Int)))], ⟨[], σ1⟩) kk =
          kk (.exit 0) ([(0, .v (.str t)), (3, .v a'), (4, .v (int t.length)), (9, .v (.bool false))], ⟨[], σ'⟩) := by
      intro he
      obtain ⟨a1, σ1, g1, g2, g3⟩ := hw.app 1 (bc [t[i]]) (by simp only [bc_len, List.length_cons, List.length_nil]; omega)
      rw [← bc_app] at g2
      obtain ⟨a', σ', f1, f2, f3⟩ := ih (i + 1) (acc ++ [t[i]]) a1 σ1 (by omega) (by simp only [List.length_append, List.length_cons, List.length_nil]; omega) g2
      refine ⟨a', σ', ?_, g3.step f2, a1, σ1, g1, f3⟩
      rw [List.drop_eq_getElem_cons hlt, esc_cons, he, ← List.append_assoc]
      exact f1
    have hfin2 : escB t[i] = [92, t[i]] → ∃ a' σ', OwR q σ' 1 (bc (acc ++ (t.drop i).flatMap escB)) a' ∧ Fr (fun r => r = q) σ σ' ∧ ∃ a0 σ0 a1 σ1, appV 1 1 σ [[.int .u8 92]] a = some (a0, σ0) ∧ appV 1 1 σ0 [[.int .u8 (t[i].toNat : Nat)]] a0 = some (a1, σ1) ∧ ∀ kk : Out → S → Option R,
        loopK (EE X) [0, 3, 4] l_spec_l02Quote_0 ([(0, .v (.str t)), (3, .v a1), (4, .v (int ((i + 1 : Nat) : Int)))], ⟨[], σ1⟩) kk =
          kk (.exit 0) ([(0, .v (.str t)), (3, .v a'), (4, .v (int t.length)), (9, .v (.bool false))], ⟨[], σ'⟩) := by
      intro he
      obtain ⟨a0, σ0, k1, k2, k3⟩ := hw.app 1 (bc [92]) (by simp only [bc_len, List.length_cons, List.length_nil]; omega)
      rw [← bc_app] at k2
      obtain ⟨a1, σ1, g1, g2, g3⟩ := k2.app 1 (bc [t[i]]) (by simp only [bc_len, List.length_append, List.length_cons, List.length_nil]; omega)
      rw [← bc_app] at g2
      obtain ⟨a', σ', f1, f2, f3⟩ := ih (i + 1) (acc ++ [92] ++ [t[i]]) a1 σ1 (by omega) (by simp only [List.length_append, List.length_cons, List.length_nil]; omega) g2
      refine ⟨a', σ', ?_, (k3.step g3).step f2, a0, σ0, a1, σ1, k1, g1, f3⟩
      rw [List.drop_eq_getElem_cons hlt, esc_cons, he, ← List.append_assoc]
      simpa using f1
    cases h39 : t[i] == 39 with
    | true =>
      obtain ⟨a', σ', f1, f2, a0, σ0, a1, σ1, k1, g1, f3⟩ := hfin2 (by simp [escB, h39])
      refine ⟨a', σ', f1, f2, fun kk => ?_⟩
      rw [← f3 kk, loopK_step l_spec_l02Quote_0.eq_1]
      simp (config := {contextual := true, implicitDefEqProofs := false, maxSteps := 1000000}) only [
    ↓PR0, ↓PR1, ↓PR2, PO0, PO1, PO2, PO3, result, resOf, allSome, number, upd, List.map, Option.bind_some, Nat.reduceAdd, Nat.reduceSub, Nat.reduceLeDiff, Nat.reduceLT, Nat.reduceEqDiff, Nat.zero_add, Nat.add_zero, Nat.le_refl, reduceIte, 
    ne_eq, not_false_eq_true, and_self, true_and, and_true, reduceCtorEq, cond_true, cond_false, hlt', decide_true, hix, b39i, h39, List.replicate_succ, List.replicate_zero, List.set_cons_zero, hel, k1, g1, hwi]
    | false =>
      cases h92 : t[i] == 92 with
      | true =>
        obtain ⟨a', σ', f1, f2, a0, σ0, a1, σ1, k1, g1, f3⟩ := hfin2 (by simp [escB, h92])
        refine ⟨a', σ', f1, f2, fun kk => ?_⟩
        rw [← f3 kk, loopK_step l_spec_l02Quote_0.eq_1]
        simp (config := {contextual := true, implicitDefEqProofs := false, maxSteps := 1000000}) only [
    ↓PR0, ↓PR1, ↓PR2, PO0, PO1, PO2, PO3, result, resOf, allSome, number, upd, List.map, Option.bind_some, Nat.reduceAdd, Nat.reduceSub, Nat.reduceLeDiff, Nat.reduceLT, Nat.reduceEqDiff, Nat.zero_add, Nat.add_zero, Nat.le_refl, reduceIte, 
    ne_eq, not_false_eq_true, and_self, true_and, and_true, reduceCtorEq, cond_true, cond_false, hlt', decide_true, hix, b39i, h39, b92i, h92, List.replicate_succ, List.replicate_zero, List.set_cons_zero, hel, k1, g1, hwi]
      | false =>
        obtain ⟨a', σ', f1, f2, a1, σ1, g1, f3⟩ := hfin (by simp [escB, h39, h92])
        refine ⟨a', σ', f1, f2, fun kk => ?_⟩
        rw [← f3 kk, loopK_step l_spec_l02Quote_0.eq_1]
        simp (config := {contextual := true, implicitDefEqProofs := false, maxSteps := 1000000}) only [
    ↓PR0, ↓PR1, ↓PR2, PO0, PO1, PO2, PO3, result, resOf, allSome, number, upd, List.map, Option.bind_some, Nat.reduceAdd, Nat.reduceSub, Nat.reduceLeDiff, Nat.reduceLT, Nat.reduceEqDiff, Nat.zero_add, Nat.add_zero, Nat.le_refl, reduceIte, 
    ne_eq, not_false_eq_true, and_self, true_and, and_true, reduceCtorEq, cond_true, cond_false, hlt', decide_true, hix, b39i, h39, b92i, h92, List.replicate_succ, List.replicate_zero, List.set_cons_zero, hel, g1, hwi]
theorem l02Quote_eq (t : List UInt8) (ht : t.length ≤ 1048576) (σ : Store) : ∃ σ', EE X f_spec_l02Quote [.str t] σ = some (.str (quoteM t), σ') ∧ Pre σ σ' := by
  have hw : OwR σ.length (σ ++ [⟨[[.int .u8 39]], 1, 0, .own⟩]) 1 (bc [39]) (.sl σ.length 0 0 1) := OwR.new σ (bc [39]) 1
  obtain ⟨a', σ', f1, f2, f3⟩ := specQuote_loop (X := X) (R := AV × Store) t ht t.length 0 [39] _ _ (by omega) (by simp) hw
  simp only [Int.cast_ofNat_Int, List.drop_zero] at f1 f3
  have hl := esc_len t
  obtain ⟨a2, σ2, g1, g2, g3⟩ := f1.app 1 (bc [39]) (by simp only [bc_len, List.length_append, List.length_cons, List.length_nil]; omega)
  rw [← bc_app] at g2
  have hel : ∀ (x : AV) M, elsOf M 1 (.ls [[x]]) = some [[x]] := fun _ _ => rfl
  have g1' : appV 1 1 σ' [[.int .u8 39]] a' = some (a2, σ2) := g1
  have hels := fun bx => g2.slAt.els bx
  refine ⟨σ2, ?_, (Pre.app σ _).trans (f2.step g3) (fun x h1 h2 => by omega)⟩
  have e : quoteM t = [39] ++ t.flatMap escB ++ [39] := by simp [quoteM]
  rw [e, EE, Ex_run C_spec_l02Quote rfl]
  simp (config := {contextual := true, implicitDefEqProofs := false, maxSteps := 1000000}) only [
    ↓PR0, ↓PR1, ↓PR2, PO0, PO1, PO2, PO3, result, resOf, allSome, number, upd, List.map, Option.bind_some, Nat.reduceAdd, Nat.reduceSub, Nat.reduceLeDiff, Nat.reduceLT, Nat.reduceEqDiff, Nat.zero_add, Nat.add_zero, Nat.le_refl, reduceIte, 
    ne_eq, not_false_eq_true, and_self, true_and, and_true, reduceCtorEq, cond_true, cond_false, c_spec_l02Quote, List.replicate_succ, List.replicate_zero, List.set_cons_zero, f3, hel, g1', hels, bc_bytes]
theorem implQuote_loop {R : Type} {q : Nat} (t : List UInt8) (ht : t.length ≤ 1048576) (b : AV) (hbq : ∀ r v i n, b = .sl r v i n → ¬ r = q) : ∀ d i acc a σ, i + d = t.length → acc.length ≤ 2 * i + 1 → OwR q σ 1 (bc acc) a → SlAt σ 1 b (bc t) →
    ∃ a' σ', OwR q σ' 1 (bc (acc ++ (t.drop i).flatMap escB)) a' ∧ Fr (fun r => r = q) σ σ' ∧ ∀ kk : Out → S → Option R,
    loopK (EE X) [3, 8, 9, 10] l_impl_quoteText_0 ([(3, .v a), (8, .v b), (9, .v (int t.length)), (10, .v (int i))], ⟨[], σ⟩) kk =
      kk (.exit 0) ([(3, .v a'), (8, .v b), (9, .v (int t.length)), (10, .v (int t.length)), (11, .v (.bool false))], ⟨[], σ'⟩) := by
  intro d
  induction d with
  | zero =>
    intro i acc a σ hi hacc hw hb
    have e : i = t.length := by omega
    subst e
    refine ⟨a, σ, by simpa using hw, Fr.refl _ _, fun kk => ?_⟩
    rw [loopK_step l_impl_quoteText_0.eq_1]
    simp (config := {contextual := true, implicitDefEqProofs := false, maxSteps := 1000000}) only [
    ↓PR0, ↓PR1, ↓PR2, PO0, PO1, PO2, PO3, result, resOf, allSome, number, upd, List.map, Option.bind_some, Nat.reduceAdd, Nat.reduceSub, Nat.reduceLeDiff, Nat.reduceLT, Nat.reduceEqDiff, Nat.zero_add, Nat.add_zero, Nat.le_refl, reduceIte, 
    ne_eq, not_false_eq_true, and_self, true_and, and_true, reduceCtorEq, cond_true, cond_false, Int.lt_irrefl, decide_false]
  | succ d ih =>
    intro i acc a σ hi hacc hw hb
    have hlt : i < t.length := by omega
    have hlt' : (i : Int) < (t.length : Int) := by omega
    have hwi : IntKind.i64.wrap ((i : Int) + 1) = ((i + 1 : Nat) : Int) := wrap64 (by omega) (by omega)
    have hrs : RS RByte 1 σ t b := ⟨bc t, hb, bcs_all σ t⟩
    obtain ⟨c1, hp', ha1, ha2, _⟩ := hrs.get (List.getElem?_eq_getElem hlt)
    have hp'' : c1 = [.int .u8 (t[i].toNat : Nat)] := hp'
    subst hp''
    have hel : ∀ (x : AV) M, elsOf M 1 (.ls [[x]]) = some [[x]] := fun _ _ => rfl
    have hfin : escB t[i] = [t[i]] → ∃ a' σ', OwR q σ' 1 (bc (acc ++ (t.drop i).flatMap escB)) a' ∧ Fr (fun r => r = q) σ σ' ∧ ∃ a1 σ1, appV 1 1 σ [[.int .u8 (t[i].toNat : Nat)]] a = some (a1, σ1) ∧ ∀ kk : Out → S → Option R,
        loopK (EE X) [3, 8, 9, 10] l_impl_quoteText_0 ([(3, .v a1), (8, .v b), (9, .v (int t.length)), (10, .v (int ((i + 1 : Nat) : Int)))], ⟨[], σ1⟩) kk =
          kk (.exit 0) ([(3, .v a'), (8, .v b), (9, .v (int t.length)), (10, .v (int t.length)), (11, .v (.bool false))], ⟨[], σ'⟩) := by
      intro he
      obtain ⟨a1, σ1, g1, g2, g3⟩ := hw.app 1 (bc [t[i]]) (by simp only [bc_len, List.length_cons, List.length_nil]; omega)
      rw [← bc_app] at g2
      obtain ⟨a', σ', f1, f2, f3⟩ := ih (i + 1) (acc ++ [t[i]]) a1 σ1 (by omega) (by simp only [List.length_append, List.length_cons, List.length_nil]; omega) g2 (hb.frA g3 hbq)
      refine ⟨a', σ', ?_, g3.step f2, a1, σ1, g1, f3⟩
      rw [List.drop_eq_getElem_cons hlt, esc_cons, he, ← List.append_assoc]
      exact f1
    have hfin2 : escB t[i] = [92, t[i]] → ∃ a' σ', OwR q σ' 1 (bc (acc ++ (t.drop i).flatMap escB)) a' ∧ Fr (fun r => r = q) σ σ' ∧ ∃ a0 σ0 a1 σ1, appV 1 1 σ [[.int .u8 92]] a = some (a0, σ0) ∧ appV 1 1 σ0 [[.int .u8 (t[i].toNat : Nat)]] a0 = some (a1, σ1) ∧ ∀ kk : Out → S → Option R,
        loopK (EE X) [3, 8, 9, 10] l_impl_quoteText_0 ([(3, .v a1), (8, .v b), (9, .v (int t.length)), (10, .v (int ((i + 1 : Nat) : Int)))], ⟨[], σ1⟩) kk =
          kk (.exit 0) ([(3, .v a'), (8, .v b), (9, .v (int t.length)), (10, .v (int t.length)), (11, .v (.bool false))], ⟨[], σ'⟩) := by
      intro he
      obtain ⟨a0, σ0, k1, k2, k3⟩ := hw.app 1 (bc [92]) (by simp only [bc_len, List.length_cons, List.length_nil]; omega)
      rw [← bc_app] at k2
      obtain ⟨a1, σ1, g1, g2, g3⟩ := k2.app 1 (bc [t[i]]) (by simp only [bc_len, List.length_append, List.length_cons, List.length_nil]; omega)
      rw [← bc_app] at g2
      obtain ⟨a', σ', f1, f2, f3⟩ := ih (i + 1) (acc ++ [92] ++ [t[i]]) a1 σ1 (by omega) (by simp only [List.length_append, List.length_cons, List.length_nil]; omega) g2 ((hb.frA k3 hbq).frA g3 hbq)
      refine ⟨a', σ', ?_, (k3.step g3).step f2, a0, σ0, a1, σ1, k1, g1, f3⟩
      rw [List.drop_eq_getElem_cons hlt, esc_cons, he, ← List.append_assoc]
      simpa using f1
    cases h39 : t[i] == 39 with
    | true =>
      obtain ⟨a', σ', f1, f2, a0, σ0, a1, σ1, k1, g1, f3⟩ := hfin2 (by simp [escB, h39])
      refine ⟨a', σ', f1, f2, fun kk => ?_⟩
      rw [← f3 kk, loopK_step l_impl_quoteText_0.eq_1]
      simp (config := {contextual := true, implicitDefEqProofs := false, maxSteps := 1000000}) only [
    ↓PR0, ↓PR1, ↓PR2, PO0, PO1, PO2, PO3, result, resOf, allSome, number, upd, List.map, Option.bind_some, Nat.reduceAdd, Nat.reduceSub, Nat.reduceLeDiff, Nat.reduceLT, Nat.reduceEqDiff, Nat.zero_add, Nat.add_zero, Nat.le_refl, reduceIte, 
    ne_eq, not_false_eq_true, and_self, true_and, and_true, reduceCtorEq, cond_true, cond_false, hlt', decide_true, ha1, ha2, b39i, h39, List.replicate_succ, List.replicate_zero, List.set_cons_zero, hel, k1, g1, hwi]
    | false =>
      cases h92 : t[i] == 92 with
      | true =>
        obtain ⟨a', σ', f1, f2, a0, σ0, a1, σ1, k1, g1, f3⟩ := hfin2 (by simp [escB, h92])
        refine ⟨a', σ', f1, f2, fun kk => ?_⟩
        rw [← f3 kk, loopK_step l_impl_quoteText_0.eq_1]
        simp (config := {contextual := true, implicitDefEqProofs := false, maxSteps := 1000000}) only [
    ↓PR0, ↓PR1, ↓PR2, PO0, PO1, PO2, PO3, result, resOf, allSome, number, upd, List.map, Option.bind_some, Nat.reduceAdd, Nat.reduceSub, Nat.reduceLeDiff, Nat.reduceLT, Nat.reduceEqDiff, Nat.zero_add, Nat.add_zero, Nat.le_refl, reduceIte, 
    ne_eq, not_false_eq_true, and_self, true_and, and_true, reduceCtorEq, cond_true, cond_false, hlt', decide_true, ha1, ha2, b39i, h39, b92i, h92, List.replicate_succ, List.replicate_zero, List.set_cons_zero, hel, k1, g1, hwi]
      | false =>
        obtain ⟨a', σ', f1, f2, a1, σ1, g1, f3⟩ := hfin (by simp [escB, h39, h92])
        refine ⟨a', σ', f1, f2, fun kk => ?_⟩
        rw [← f3 kk, loopK_step l_impl_quoteText_0.eq_1]
        simp (config := {contextual := true, implicitDefEqProofs := false, maxSteps := 1000000}) only [
    ↓PR0, ↓PR1, ↓PR2, PO0, PO1, PO2, PO3, result, resOf, allSome, number, upd, List.map, Option.bind_some, Nat.reduceAdd, Nat.reduceSub, Nat.reduceLeDiff, Nat.reduceLT, Nat.reduceEqDiff, Nat.zero_add, Nat.add_zero, Nat.le_refl, reduceIte, 
    ne_eq, not_false_eq_true, and_self, true_and, and_true, reduceCtorEq, cond_true, cond_false, hlt', decide_true, ha1, ha2, b39i, h39, b92i, h92, List.replicate_succ, List.replicate_zero, List.set_cons_zero, hel, g1, hwi]
theorem quoteText_eq (t : List UInt8) (ht : t.length ≤ 1048576) (σ : Store) : ∃ σ', EE X f_impl_quoteText [.str t] σ = some (.str (quoteM t), σ') ∧ Pre σ σ' := by
  have hw0 : OwR σ.length (σ ++ [⟨[[.int .u8 39]], 1, 0, .own⟩]) 1 (bc [39]) (.sl σ.length 0 0 1) := OwR.new σ (bc [39]) 1
  have hb0 : SlAt (σ ++ [⟨[[.int .u8 39]], 1, 0, .own⟩] ++ [⟨t.map fun b => [.int .u8 (b.toNat : Nat)], 1, 0, .own⟩]) 1 (.sl (σ ++ [(⟨[[.int .u8 39]], 1, 0, .own⟩ : Row)]).length 0 0 (bc t).length) (bc t) := SlAt.new _ (bc t) 1
  rw [bc_len] at hb0
  have hw := hw0.pre (Pre.app _ [(⟨t.map fun b => [.int .u8 (b.toNat : Nat)], 1, 0, .own⟩ : Row)])
  obtain ⟨a', σ', f1, f2, f3⟩ := implQuote_loop (X := X) (R := AV × Store) (q := σ.length) t ht (.sl (σ ++ [(⟨[[.int .u8 39]], 1, 0, .own⟩ : Row)]).length 0 0 t.length) (by intro r v i n h; injection h with h1; rw [← h1]; simp) t.length 0 [39] _ _ (by omega) (by simp) hw hb0
  simp only [Int.cast_ofNat_Int, List.drop_zero] at f1 f3
  have hl := esc_len t
  obtain ⟨a2, σ2, g1, g2, g3⟩ := f1.app 1 (bc [39]) (by simp only [bc_len, List.length_append, List.length_cons, List.length_nil]; omega)
  rw [← bc_app] at g2
  have hel : ∀ (x : AV) M, elsOf M 1 (.ls [[x]]) = some [[x]] := fun _ _ => rfl
  have g1' : appV 1 1 σ' [[.int .u8 39]] a' = some (a2, σ2) := g1
  have hels := fun bx => g2.slAt.els bx
  refine ⟨σ2, ?_, ((Pre.app σ [(⟨[[.int .u8 39]], 1, 0, .own⟩ : Row)]).pre (Pre.app _ [(⟨t.map fun b => [.int .u8 (b.toNat : Nat)], 1, 0, .own⟩ : Row)])).trans (f2.step g3) (fun x h1 h2 => by omega)⟩
  have e : quoteM t = [39] ++ t.flatMap escB ++ [39] := by simp [quoteM]
  rw [e, EE, Ex_run C_impl_quoteText rfl]
  simp (config := {contextual := true, implicitDefEqProofs := false, maxSteps := 1000000}) only [
    ↓PR0, ↓PR1, ↓PR2, PO0, PO1, PO2, PO3, result, resOf, allSome, number, upd, List.map, Option.bind_some, Nat.reduceAdd, Nat.reduceSub, Nat.reduceLeDiff, Nat.reduceLT, Nat.reduceEqDiff, Nat.zero_add, Nat.add_zero, Nat.le_refl, reduceIte, 
    ne_eq, not_false_eq_true, and_self, true_and, and_true, reduceCtorEq, cond_true, cond_false, c_impl_quoteText, List.replicate_succ, List.replicate_zero, List.set_cons_zero, f3, hel, g1', hels, bc_bytes]
end Go.X
