/- Nodes: the checks of a node's fields, of both. -/
import Derived.Test.YtfifhpmcbfeadaaGreatDoorXL4
import Derived.Test.YtfifhpmcbfeadaaGreatDoorY6
set_option linter.unusedVariables false
set_option linter.unusedSimpArgs false
set_option maxRecDepth 20000
namespace Go.X
open Go
variable {X : Call}

/-- A kind that is none. -/
def NoK (k : Int) : Prop := ((k == 1) = false ∧ (k == 2) = false ∧ (k == 3) = false ∧ (k == 4) = false ∧ (k == 5) = false) ∧ ((k == 6) = false ∧ (k == 7) = false ∧ (k == 8) = false ∧ (k == 9) = false ∧ (k == 10) = false) ∧ ((k == 11) = false ∧ (k == 12) = false ∧ (k == 13) = false ∧ (k == 14) = false ∧ (k == 15) = false) ∧ (k == 16) = false ∧ (k == 17) = false ∧ (k == 18) = false ∧ (k == 19) = false ∧ (k == 20) = false
theorem kindCases (k : Int) : k = 1 ∨ k = 2 ∨ k = 3 ∨ k = 4 ∨ k = 5 ∨ k = 6 ∨ k = 7 ∨ k = 8 ∨ k = 9 ∨ k = 10 ∨ k = 11 ∨ k = 12 ∨ k = 13 ∨ k = 14 ∨ k = 15 ∨ k = 16 ∨ k = 17 ∨ k = 18 ∨ k = 19 ∨ k = 20 ∨ NoK k := by
  by_cases h : 1 ≤ k ∧ k ≤ 20
  · omega
  · have : NoK k := by simp only [NoK, beq_eq_false_iff_ne]; omega
    simp only [this, or_true]
theorem NoK.all {k : Int} (h : NoK k) : (k == 1) = false ∧ (k == 2) = false ∧ (k == 3) = false ∧ (k == 4) = false ∧ (k == 5) = false ∧ (k == 6) = false ∧ (k == 7) = false ∧ (k == 8) = false ∧ (k == 9) = false ∧ (k == 10) = false ∧ (k == 11) = false ∧ (k == 12) = false ∧ (k == 13) = false ∧ (k == 14) = false ∧ (k == 15) = false ∧ (k == 16) = false ∧ (k == 17) = false ∧ (k == 18) = false ∧ (k == 19) = false ∧ (k == 20) = false := by
  obtain ⟨⟨a, b, c, d, e⟩, ⟨f, g, h, i, j⟩, ⟨k, l, m, n, o⟩, p⟩ := h
  exact ⟨a, b, c, d, e, f, g, h, i, j, k, l, m, n, o, p⟩

theorem l03Node_loop {R : Type} (an : AV) (ns : List (List UInt8)) (hl : ns.length ≤ 1048576) (cs : List AV) (h3 : cs[3]? = some an) : ∀ d i (σ : Store), i + d = ns.length → RS RT 1 σ ns an → ∃ σ', Pre σ σ' ∧ ∀ kk : Out → S → Option R,
    loopK (EE X) [1, 4] l_spec_l03Node_0 ([(1, .lp 1 0), (4, .v (int i))], ⟨[(1, cs)], σ⟩) kk =
      br ((ns.drop i).all identM) (kk (.exit 1) ([(1, .lp 1 0), (4, .v (int ns.length)), (116, .v (.bool false))], ⟨[(1, cs)], σ'⟩)) (kk .ret ([(2, .v (.bool false))], ⟨[], σ'⟩)) := by
  intro d
  induction d with
  | zero =>
    intro i σ hi ha
    have e : i = ns.length := by omega
    subst e
    refine ⟨σ, Fr.refl _ _, fun kk => ?_⟩
    rw [loopK_step l_spec_l03Node_0.eq_1, List.drop_length]
    simp (config := {contextual := true, implicitDefEqProofs := false, maxSteps := 1000000}) only [
    ↓PR0, ↓PR1, ↓PR2, PO0, PO1, PO2, PO3, idxV_str, result, resOf, allSome, number, upd, List.map, Option.bind_some, Nat.reduceAdd, Nat.reduceSub, Nat.reduceLeDiff, Nat.reduceLT, Nat.reduceEqDiff, Nat.zero_add, Nat.add_zero, Nat.le_refl, 
    reduceIte, ne_eq, not_false_eq_true, and_self, true_and, and_true, reduceCtorEq, cond_true, cond_false, h3, ha.len, Int.lt_irrefl, decide_false, List.all_nil]
  | succ d ih =>
    intro i σ hi ha
    have hlt : i < ns.length := by omega
    have hlt' : (i : Int) < (ns.length : Int) := by omega
    have hw : IntKind.i64.wrap ((i : Int) + 1) = ((i + 1 : Nat) : Int) := wrap64 (by omega) (by omega)
    obtain ⟨c1, ⟨hp, hlk⟩, ha1, ha2, _⟩ := ha.get (List.getElem?_eq_getElem hlt)
    subst hp
    obtain ⟨σ1, n1, p1⟩ := l03Name_eq (X := X) ns[i] σ hlk
    cases hb : identM ns[i] with
    | false =>
      rw [hb] at n1
      refine ⟨σ1, p1, fun kk => ?_⟩
      rw [loopK_step l_spec_l03Node_0.eq_1, List.drop_eq_getElem_cons hlt, List.all_cons, hb]
      simp (config := {contextual := true, implicitDefEqProofs := false, maxSteps := 1000000}) only [
    ↓PR0, ↓PR1, ↓PR2, PO0, PO1, PO2, PO3, idxV_str, result, resOf, allSome, number, upd, List.map, Option.bind_some, Nat.reduceAdd, Nat.reduceSub, Nat.reduceLeDiff, Nat.reduceLT, Nat.reduceEqDiff, Nat.zero_add, Nat.add_zero, Nat.le_refl, 
    reduceIte, ne_eq, not_false_eq_true, and_self, true_and, and_true, reduceCtorEq, cond_true, cond_false, h3, ha.len, hlt', decide_true, ha1, ha2, n1, Bool.not_false, Bool.false_and]
    | true =>
      rw [hb] at n1
      obtain ⟨σ', p2, ih'⟩ := ih (i + 1) σ1 (by omega) (ha.pre (RP.mono _ _) p1)
      refine ⟨σ', p1.pre p2, fun kk => ?_⟩
      rw [loopK_step l_spec_l03Node_0.eq_1, List.drop_eq_getElem_cons hlt, List.all_cons, hb]
      simp (config := {contextual := true, implicitDefEqProofs := false, maxSteps := 1000000}) only [
    ↓PR0, ↓PR1, ↓PR2, PO0, PO1, PO2, PO3, idxV_str, result, resOf, allSome, number, upd, List.map, Option.bind_some, Nat.reduceAdd, Nat.reduceSub, Nat.reduceLeDiff, Nat.reduceLT, Nat.reduceEqDiff, Nat.zero_add, Nat.add_zero, Nat.le_refl, 
    reduceIte, ne_eq, not_false_eq_true, and_self, true_and, and_true, reduceCtorEq, cond_true, cond_false, h3, ha.len, hlt', decide_true, ha1, ha2, n1, Bool.not_true, Bool.true_and, hw, ih']
set_option maxHeartbeats 4000000 in
theorem l03Node_eq (σ : Store) (m : NodeM) (cs : List AV) (h : RNode σ m cs) (hs : m.size ≤ 1048576) : ∃ σ', EE X f_spec_l03Node [.agg cs] σ = some (.bool (nodeOK m), σ') ∧ Pre σ σ' := by
  obtain ⟨k, n, t, ns, ks⟩ := m
  obtain ⟨an, ak, rfl, hn, hk, ok⟩ := h
  obtain ⟨g1, g2, g3, g4, g5⟩ := ok
  simp only at hn hk g1 g2 g3 g4 g5
  have hnl : ns.length ≤ 1048576 := by simp only [NodeM.size] at hs; omega
  have l1 := fun a b c => l01In_eq'' (X := X) a b c σ
  have l2 := l02Plain_eq (X := X) t σ g3
  have l3 := opSpec_eq (X := X) t σ
  have hlen := hn.len
  have c1 := hn.cellsOf
  have c2 := hk.cellsOf
  obtain ⟨σ1, p1, q1⟩ := l03Node_loop (X := X) (R := AV × Store) an ns hnl [int k, int n, .str t, an, ak] rfl ns.length 0 σ (by omega) hn
  obtain ⟨σ2, n2, p2⟩ := l03Name_eq (X := X) t σ1 g3
  simp only [Int.cast_ofNat_Int, List.drop_zero] at q1
  have z0 : (((0 : Nat) : Int) == 0) = true := rfl
  show ∃ σ', EE X f_spec_l03Node [.agg [int k, int n, .str t, an, ak]] σ = some (.bool (nodeOK ⟨k, n, t, ns, ks⟩), σ') ∧ Pre σ σ'
  have e1 : ((ns.length : Int) == 0) = decide (ns.length = 0) := by rw [Bool.eq_iff_iff]; simp
  have e2 : decide ((0 : Int) < (ns.length : Int)) = decide (0 < ns.length) := by rw [Bool.eq_iff_iff]; simp
  rcases kindCases k with rfl | rfl | rfl | rfl | rfl | rfl | rfl | rfl | rfl | rfl | rfl | rfl | rfl | rfl | rfl | rfl | rfl | rfl | rfl | rfl | hk'
  · refine ⟨σ, ?_, Fr.refl _ _⟩
    rw [EE, Ex_run C_spec_l03Node rfl]
    simp (config := {contextual := true, implicitDefEqProofs := false, maxSteps := 1000000}) only [
    ↓PR0, ↓PR1, ↓PR2, PO0, PO1, PO2, PO3, idxV_str, result, resOf, allSome, number, upd, List.map, Option.bind_some, Nat.reduceAdd, Nat.reduceSub, Nat.reduceLeDiff, Nat.reduceLT, Nat.reduceEqDiff, Nat.zero_add, Nat.add_zero, Nat.le_refl, 
    reduceIte, ne_eq, not_false_eq_true, and_self, true_and, and_true, reduceCtorEq, cond_true, cond_false, c_spec_l03Node, Int.reduceBEq, Int.reduceBNe, bne, Bool.not_true, Bool.not_false, hlen, l1, l2, l3, c1, c2, e1, e2]
    simp only [br, nodeOK, namedM, bne, Int.reduceBEq]
    by_cases a : n = 0 <;> by_cases b : ns.length = 0 <;> by_cases c : t = [] <;> simp [a, b, c, Nat.pos_iff_ne_zero] <;> (try (split <;> simp_all))
  · refine ⟨σ, ?_, Fr.refl _ _⟩
    rw [EE, Ex_run C_spec_l03Node rfl]
    simp (config := {contextual := true, implicitDefEqProofs := false, maxSteps := 1000000}) only [
    ↓PR0, ↓PR1, ↓PR2, PO0, PO1, PO2, PO3, idxV_str, result, resOf, allSome, number, upd, List.map, Option.bind_some, Nat.reduceAdd, Nat.reduceSub, Nat.reduceLeDiff, Nat.reduceLT, Nat.reduceEqDiff, Nat.zero_add, Nat.add_zero, Nat.le_refl, 
    reduceIte, ne_eq, not_false_eq_true, and_self, true_and, and_true, reduceCtorEq, cond_true, cond_false, c_spec_l03Node, Int.reduceBEq, Int.reduceBNe, bne, Bool.not_true, Bool.not_false, hlen, l1, l2, l3, c1, c2, e1, e2]
    simp only [br, nodeOK, namedM, bne, Int.reduceBEq]
    by_cases a : n = 0 <;> by_cases b : ns.length = 0 <;> by_cases c : t = [] <;> simp [a, b, c, Nat.pos_iff_ne_zero] <;> (try (split <;> simp_all))
  · refine ⟨σ, ?_, Fr.refl _ _⟩
    rw [EE, Ex_run C_spec_l03Node rfl]
    simp (config := {contextual := true, implicitDefEqProofs := false, maxSteps := 1000000}) only [
    ↓PR0, ↓PR1, ↓PR2, PO0, PO1, PO2, PO3, idxV_str, result, resOf, allSome, number, upd, List.map, Option.bind_some, Nat.reduceAdd, Nat.reduceSub, Nat.reduceLeDiff, Nat.reduceLT, Nat.reduceEqDiff, Nat.zero_add, Nat.add_zero, Nat.le_refl, 
    reduceIte, ne_eq, not_false_eq_true, and_self, true_and, and_true, reduceCtorEq, cond_true, cond_false, c_spec_l03Node, Int.reduceBEq, Int.reduceBNe, bne, Bool.not_true, Bool.not_false, hlen, l1, l2, l3, c1, c2, e1, e2]
    simp only [br, nodeOK, namedM, bne, Int.reduceBEq]
    by_cases a : n = 0 <;> by_cases b : ns.length = 0 <;> by_cases c : t = [] <;> simp [a, b, c, Nat.pos_iff_ne_zero] <;> (try (split <;> simp_all))
  · refine ⟨σ, ?_, Fr.refl _ _⟩
    rw [EE, Ex_run C_spec_l03Node rfl]
    simp (config := {contextual := true, implicitDefEqProofs := false, maxSteps := 1000000}) only [
    ↓PR0, ↓PR1, ↓PR2, PO0, PO1, PO2, PO3, idxV_str, result, resOf, allSome, number, upd, List.map, Option.bind_some, Nat.reduceAdd, Nat.reduceSub, Nat.reduceLeDiff, Nat.reduceLT, Nat.reduceEqDiff, Nat.zero_add, Nat.add_zero, Nat.le_refl, 
    reduceIte, ne_eq, not_false_eq_true, and_self, true_and, and_true, reduceCtorEq, cond_true, cond_false, c_spec_l03Node, Int.reduceBEq, Int.reduceBNe, bne, Bool.not_true, Bool.not_false, hlen, l1, l2, l3, c1, c2, e1, e2]
    simp only [br, nodeOK, namedM, bne, Int.reduceBEq]
    by_cases a : n = 0 <;> by_cases b : ns.length = 0 <;> by_cases c : t = [] <;> simp [a, b, c, Nat.pos_iff_ne_zero] <;> (try (split <;> simp_all))
  · by_cases hA : (n == 0) = true ∧ decide (0 < ns.length) = false
    · obtain ⟨hA, hB⟩ := hA
      have hC : ns.all identM = true := by simp only [decide_eq_false_iff_not, Nat.not_lt, Nat.le_zero] at hB; rw [List.length_eq_zero_iff.1 hB]; rfl
      refine ⟨σ2, ?_, p1.pre p2⟩
      rw [hC] at q1
      rw [EE, Ex_run C_spec_l03Node rfl]
      simp (config := {contextual := true, implicitDefEqProofs := false, maxSteps := 1000000}) only [
    ↓PR0, ↓PR1, ↓PR2, PO0, PO1, PO2, PO3, idxV_str, result, resOf, allSome, number, upd, List.map, Option.bind_some, Nat.reduceAdd, Nat.reduceSub, Nat.reduceLeDiff, Nat.reduceLT, Nat.reduceEqDiff, Nat.zero_add, Nat.add_zero, Nat.le_refl, 
    reduceIte, ne_eq, not_false_eq_true, and_self, true_and, and_true, reduceCtorEq, cond_true, cond_false, c_spec_l03Node, hA, hB, q1, n2, Int.reduceBEq, Int.reduceBNe, bne, Bool.not_true, Bool.not_false, hlen, l1, l2, l3, c1, c2, e1, e2]
      simp [nodeOK, bne, hA, namedM, hC]
      exact fun _ => by simpa using hB
    · refine ⟨σ, ?_, Fr.refl _ _⟩
      rw [EE, Ex_run C_spec_l03Node rfl]
      have hA' : (n == 0) = false ∨ decide (0 < ns.length) = true := by
        cases h1 : n == 0 <;> cases h2 : decide (0 < ns.length) <;> simp_all
      rcases hA' with hA' | hA'
      · simp (config := {contextual := true, implicitDefEqProofs := false, maxSteps := 1000000}) only [
    ↓PR0, ↓PR1, ↓PR2, PO0, PO1, PO2, PO3, idxV_str, result, resOf, allSome, number, upd, List.map, Option.bind_some, Nat.reduceAdd, Nat.reduceSub, Nat.reduceLeDiff, Nat.reduceLT, Nat.reduceEqDiff, Nat.zero_add, Nat.add_zero, Nat.le_refl, 
    reduceIte, ne_eq, not_false_eq_true, and_self, true_and, and_true, reduceCtorEq, cond_true, cond_false, c_spec_l03Node, hA', Int.reduceBEq, Int.reduceBNe, bne, Bool.not_true, Bool.not_false, hlen, l1, l2, l3, c1, c2, e1, e2]
        simp [nodeOK, bne, hA']
      · simp (config := {contextual := true, implicitDefEqProofs := false, maxSteps := 1000000}) only [
    ↓PR0, ↓PR1, ↓PR2, PO0, PO1, PO2, PO3, idxV_str, result, resOf, allSome, number, upd, List.map, Option.bind_some, Nat.reduceAdd, Nat.reduceSub, Nat.reduceLeDiff, Nat.reduceLT, Nat.reduceEqDiff, Nat.zero_add, Nat.add_zero, Nat.le_refl, 
    reduceIte, ne_eq, not_false_eq_true, and_self, true_and, and_true, reduceCtorEq, cond_true, cond_false, c_spec_l03Node, hA', br_self, Int.reduceBEq, Int.reduceBNe, bne, Bool.not_true, Bool.not_false, hlen, l1, l2, l3, c1, c2, e1, e2]
        simp only [decide_eq_true_eq] at hA'
        simp [nodeOK, bne, hA']
  · refine ⟨σ, ?_, Fr.refl _ _⟩
    rw [EE, Ex_run C_spec_l03Node rfl]
    simp (config := {contextual := true, implicitDefEqProofs := false, maxSteps := 1000000}) only [
    ↓PR0, ↓PR1, ↓PR2, PO0, PO1, PO2, PO3, idxV_str, result, resOf, allSome, number, upd, List.map, Option.bind_some, Nat.reduceAdd, Nat.reduceSub, Nat.reduceLeDiff, Nat.reduceLT, Nat.reduceEqDiff, Nat.zero_add, Nat.add_zero, Nat.le_refl, 
    reduceIte, ne_eq, not_false_eq_true, and_self, true_and, and_true, reduceCtorEq, cond_true, cond_false, c_spec_l03Node, Int.reduceBEq, Int.reduceBNe, bne, Bool.not_true, Bool.not_false, hlen, l1, l2, l3, c1, c2, e1, e2]
    simp only [br, nodeOK, namedM, bne, Int.reduceBEq]
    by_cases a : n = 0 <;> by_cases b : ns.length = 0 <;> by_cases c : t = [] <;> simp [a, b, c, Nat.pos_iff_ne_zero] <;> (try (split <;> simp_all))
  · refine ⟨σ, ?_, Fr.refl _ _⟩
    rw [EE, Ex_run C_spec_l03Node rfl]
    simp (config := {contextual := true, implicitDefEqProofs := false, maxSteps := 1000000}) only [
    ↓PR0, ↓PR1, ↓PR2, PO0, PO1, PO2, PO3, idxV_str, result, resOf, allSome, number, upd, List.map, Option.bind_some, Nat.reduceAdd, Nat.reduceSub, Nat.reduceLeDiff, Nat.reduceLT, Nat.reduceEqDiff, Nat.zero_add, Nat.add_zero, Nat.le_refl, 
    reduceIte, ne_eq, not_false_eq_true, and_self, true_and, and_true, reduceCtorEq, cond_true, cond_false, c_spec_l03Node, Int.reduceBEq, Int.reduceBNe, bne, Bool.not_true, Bool.not_false, hlen, l1, l2, l3, c1, c2, e1, e2]
    simp only [br, nodeOK, namedM, bne, Int.reduceBEq]
    by_cases a : n = 0 <;> by_cases b : ns.length = 0 <;> by_cases c : t = [] <;> simp [a, b, c, Nat.pos_iff_ne_zero] <;> (try (split <;> simp_all))
  · refine ⟨σ, ?_, Fr.refl _ _⟩
    rw [EE, Ex_run C_spec_l03Node rfl]
    simp (config := {contextual := true, implicitDefEqProofs := false, maxSteps := 1000000}) only [
    ↓PR0, ↓PR1, ↓PR2, PO0, PO1, PO2, PO3, idxV_str, result, resOf, allSome, number, upd, List.map, Option.bind_some, Nat.reduceAdd, Nat.reduceSub, Nat.reduceLeDiff, Nat.reduceLT, Nat.reduceEqDiff, Nat.zero_add, Nat.add_zero, Nat.le_refl, 
    reduceIte, ne_eq, not_false_eq_true, and_self, true_and, and_true, reduceCtorEq, cond_true, cond_false, c_spec_l03Node, Int.reduceBEq, Int.reduceBNe, bne, Bool.not_true, Bool.not_false, hlen, l1, l2, l3, c1, c2, e1, e2]
    simp only [br, nodeOK, namedM, bne, Int.reduceBEq]
    by_cases a : n = 0 <;> by_cases b : ns.length = 0 <;> by_cases c : t = [] <;> simp [a, b, c, Nat.pos_iff_ne_zero] <;> (try (split <;> simp_all))
  · refine ⟨σ, ?_, Fr.refl _ _⟩
    rw [EE, Ex_run C_spec_l03Node rfl]
    simp (config := {contextual := true, implicitDefEqProofs := false, maxSteps := 1000000}) only [
    ↓PR0, ↓PR1, ↓PR2, PO0, PO1, PO2, PO3, idxV_str, result, resOf, allSome, number, upd, List.map, Option.bind_some, Nat.reduceAdd, Nat.reduceSub, Nat.reduceLeDiff, Nat.reduceLT, Nat.reduceEqDiff, Nat.zero_add, Nat.add_zero, Nat.le_refl, 
    reduceIte, ne_eq, not_false_eq_true, and_self, true_and, and_true, reduceCtorEq, cond_true, cond_false, c_spec_l03Node, Int.reduceBEq, Int.reduceBNe, bne, Bool.not_true, Bool.not_false, hlen, l1, l2, l3, c1, c2, e1, e2]
    simp only [br, nodeOK, namedM, bne, Int.reduceBEq]
    by_cases a : n = 0 <;> by_cases b : ns.length = 0 <;> by_cases c : t = [] <;> simp [a, b, c, Nat.pos_iff_ne_zero] <;> (try (split <;> simp_all))
  · by_cases hA : (n == 0) = true ∧ decide (0 < ns.length) = false
    · obtain ⟨hA, hB⟩ := hA
      have hC : ns.all identM = true := by simp only [decide_eq_false_iff_not, Nat.not_lt, Nat.le_zero] at hB; rw [List.length_eq_zero_iff.1 hB]; rfl
      refine ⟨σ2, ?_, p1.pre p2⟩
      rw [hC] at q1
      rw [EE, Ex_run C_spec_l03Node rfl]
      simp (config := {contextual := true, implicitDefEqProofs := false, maxSteps := 1000000}) only [
    ↓PR0, ↓PR1, ↓PR2, PO0, PO1, PO2, PO3, idxV_str, result, resOf, allSome, number, upd, List.map, Option.bind_some, Nat.reduceAdd, Nat.reduceSub, Nat.reduceLeDiff, Nat.reduceLT, Nat.reduceEqDiff, Nat.zero_add, Nat.add_zero, Nat.le_refl, 
    reduceIte, ne_eq, not_false_eq_true, and_self, true_and, and_true, reduceCtorEq, cond_true, cond_false, c_spec_l03Node, hA, hB, q1, n2, Int.reduceBEq, Int.reduceBNe, bne, Bool.not_true, Bool.not_false, hlen, l1, l2, l3, c1, c2, e1, e2]
      simp [nodeOK, bne, hA, namedM, hC]
      exact fun _ => by simpa using hB
    · refine ⟨σ, ?_, Fr.refl _ _⟩
      rw [EE, Ex_run C_spec_l03Node rfl]
      have hA' : (n == 0) = false ∨ decide (0 < ns.length) = true := by
        cases h1 : n == 0 <;> cases h2 : decide (0 < ns.length) <;> simp_all
      rcases hA' with hA' | hA'
      · simp (config := {contextual := true, implicitDefEqProofs := false, maxSteps := 1000000}) only [
    ↓PR0, ↓PR1, ↓PR2, PO0, PO1, PO2, PO3, idxV_str, result, resOf, allSome, number, upd, List.map, Option.bind_some, Nat.reduceAdd, Nat.reduceSub, Nat.reduceLeDiff, Nat.reduceLT, Nat.reduceEqDiff, Nat.zero_add, Nat.add_zero, Nat.le_refl, 
    reduceIte, ne_eq, not_false_eq_true, and_self, true_and, and_true, reduceCtorEq, cond_true, cond_false, c_spec_l03Node, hA', Int.reduceBEq, Int.reduceBNe, bne, Bool.not_true, Bool.not_false, hlen, l1, l2, l3, c1, c2, e1, e2]
        simp [nodeOK, bne, hA']
      · simp (config := {contextual := true, implicitDefEqProofs := false, maxSteps := 1000000}) only [
    ↓PR0, ↓PR1, ↓PR2, PO0, PO1, PO2, PO3, idxV_str, result, resOf, allSome, number, upd, List.map, Option.bind_some, Nat.reduceAdd, Nat.reduceSub, Nat.reduceLeDiff, Nat.reduceLT, Nat.reduceEqDiff, Nat.zero_add, Nat.add_zero, Nat.le_refl, 
    reduceIte, ne_eq, not_false_eq_true, and_self, true_and, and_true, reduceCtorEq, cond_true, cond_false, c_spec_l03Node, hA', br_self, Int.reduceBEq, Int.reduceBNe, bne, Bool.not_true, Bool.not_false, hlen, l1, l2, l3, c1, c2, e1, e2]
        simp only [decide_eq_true_eq] at hA'
        simp [nodeOK, bne, hA']
  · by_cases hA : (n == 0) = true ∧ decide (0 < ns.length) = false
    · obtain ⟨hA, hB⟩ := hA
      have hC : ns.all identM = true := by simp only [decide_eq_false_iff_not, Nat.not_lt, Nat.le_zero] at hB; rw [List.length_eq_zero_iff.1 hB]; rfl
      refine ⟨σ2, ?_, p1.pre p2⟩
      rw [hC] at q1
      rw [EE, Ex_run C_spec_l03Node rfl]
      simp (config := {contextual := true, implicitDefEqProofs := false, maxSteps := 1000000}) only [
    ↓PR0, ↓PR1, ↓PR2, PO0, PO1, PO2, PO3, idxV_str, result, resOf, allSome, number, upd, List.map, Option.bind_some, Nat.reduceAdd, Nat.reduceSub, Nat.reduceLeDiff, Nat.reduceLT, Nat.reduceEqDiff, Nat.zero_add, Nat.add_zero, Nat.le_refl, 
    reduceIte, ne_eq, not_false_eq_true, and_self, true_and, and_true, reduceCtorEq, cond_true, cond_false, c_spec_l03Node, hA, hB, q1, n2, Int.reduceBEq, Int.reduceBNe, bne, Bool.not_true, Bool.not_false, hlen, l1, l2, l3, c1, c2, e1, e2]
      simp [nodeOK, bne, hA, namedM, hC]
      exact fun _ => by simpa using hB
    · refine ⟨σ, ?_, Fr.refl _ _⟩
      rw [EE, Ex_run C_spec_l03Node rfl]
      have hA' : (n == 0) = false ∨ decide (0 < ns.length) = true := by
        cases h1 : n == 0 <;> cases h2 : decide (0 < ns.length) <;> simp_all
      rcases hA' with hA' | hA'
      · simp (config := {contextual := true, implicitDefEqProofs := false, maxSteps := 1000000}) only [
    ↓PR0, ↓PR1, ↓PR2, PO0, PO1, PO2, PO3, idxV_str, result, resOf, allSome, number, upd, List.map, Option.bind_some, Nat.reduceAdd, Nat.reduceSub, Nat.reduceLeDiff, Nat.reduceLT, Nat.reduceEqDiff, Nat.zero_add, Nat.add_zero, Nat.le_refl, 
    reduceIte, ne_eq, not_false_eq_true, and_self, true_and, and_true, reduceCtorEq, cond_true, cond_false, c_spec_l03Node, hA', Int.reduceBEq, Int.reduceBNe, bne, Bool.not_true, Bool.not_false, hlen, l1, l2, l3, c1, c2, e1, e2]
        simp [nodeOK, bne, hA']
      · simp (config := {contextual := true, implicitDefEqProofs := false, maxSteps := 1000000}) only [
    ↓PR0, ↓PR1, ↓PR2, PO0, PO1, PO2, PO3, idxV_str, result, resOf, allSome, number, upd, List.map, Option.bind_some, Nat.reduceAdd, Nat.reduceSub, Nat.reduceLeDiff, Nat.reduceLT, Nat.reduceEqDiff, Nat.zero_add, Nat.add_zero, Nat.le_refl, 
    reduceIte, ne_eq, not_false_eq_true, and_self, true_and, and_true, reduceCtorEq, cond_true, cond_false, c_spec_l03Node, hA', br_self, Int.reduceBEq, Int.reduceBNe, bne, Bool.not_true, Bool.not_false, hlen, l1, l2, l3, c1, c2, e1, e2]
        simp only [decide_eq_true_eq] at hA'
        simp [nodeOK, bne, hA']
  · by_cases hA : (n == 0) = true ∧ decide (0 < ns.length) = false
    · obtain ⟨hA, hB⟩ := hA
      have hC : ns.all identM = true := by simp only [decide_eq_false_iff_not, Nat.not_lt, Nat.le_zero] at hB; rw [List.length_eq_zero_iff.1 hB]; rfl
      refine ⟨σ2, ?_, p1.pre p2⟩
      rw [hC] at q1
      rw [EE, Ex_run C_spec_l03Node rfl]
      simp (config := {contextual := true, implicitDefEqProofs := false, maxSteps := 1000000}) only [
    ↓PR0, ↓PR1, ↓PR2, PO0, PO1, PO2, PO3, idxV_str, result, resOf, allSome, number, upd, List.map, Option.bind_some, Nat.reduceAdd, Nat.reduceSub, Nat.reduceLeDiff, Nat.reduceLT, Nat.reduceEqDiff, Nat.zero_add, Nat.add_zero, Nat.le_refl, 
    reduceIte, ne_eq, not_false_eq_true, and_self, true_and, and_true, reduceCtorEq, cond_true, cond_false, c_spec_l03Node, hA, hB, q1, n2, Int.reduceBEq, Int.reduceBNe, bne, Bool.not_true, Bool.not_false, hlen, l1, l2, l3, c1, c2, e1, e2]
      simp [nodeOK, bne, hA, namedM, hC]
      exact fun _ => by simpa using hB
    · refine ⟨σ, ?_, Fr.refl _ _⟩
      rw [EE, Ex_run C_spec_l03Node rfl]
      have hA' : (n == 0) = false ∨ decide (0 < ns.length) = true := by
        cases h1 : n == 0 <;> cases h2 : decide (0 < ns.length) <;> simp_all
      rcases hA' with hA' | hA'
      · simp (config := {contextual := true, implicitDefEqProofs := false, maxSteps := 1000000}) only [
    ↓PR0, ↓PR1, ↓PR2, PO0, PO1, PO2, PO3, idxV_str, result, resOf, allSome, number, upd, List.map, Option.bind_some, Nat.reduceAdd, Nat.reduceSub, Nat.reduceLeDiff, Nat.reduceLT, Nat.reduceEqDiff, Nat.zero_add, Nat.add_zero, Nat.le_refl, 
    reduceIte, ne_eq, not_false_eq_true, and_self, true_and, and_true, reduceCtorEq, cond_true, cond_false, c_spec_l03Node, hA', Int.reduceBEq, Int.reduceBNe, bne, Bool.not_true, Bool.not_false, hlen, l1, l2, l3, c1, c2, e1, e2]
        simp [nodeOK, bne, hA']
      · simp (config := {contextual := true, implicitDefEqProofs := false, maxSteps := 1000000}) only [
    ↓PR0, ↓PR1, ↓PR2, PO0, PO1, PO2, PO3, idxV_str, result, resOf, allSome, number, upd, List.map, Option.bind_some, Nat.reduceAdd, Nat.reduceSub, Nat.reduceLeDiff, Nat.reduceLT, Nat.reduceEqDiff, Nat.zero_add, Nat.add_zero, Nat.le_refl, 
    reduceIte, ne_eq, not_false_eq_true, and_self, true_and, and_true, reduceCtorEq, cond_true, cond_false, c_spec_l03Node, hA', br_self, Int.reduceBEq, Int.reduceBNe, bne, Bool.not_true, Bool.not_false, hlen, l1, l2, l3, c1, c2, e1, e2]
        simp only [decide_eq_true_eq] at hA'
        simp [nodeOK, bne, hA']
  · refine ⟨σ, ?_, Fr.refl _ _⟩
    rw [EE, Ex_run C_spec_l03Node rfl]
    simp (config := {contextual := true, implicitDefEqProofs := false, maxSteps := 1000000}) only [
    ↓PR0, ↓PR1, ↓PR2, PO0, PO1, PO2, PO3, idxV_str, result, resOf, allSome, number, upd, List.map, Option.bind_some, Nat.reduceAdd, Nat.reduceSub, Nat.reduceLeDiff, Nat.reduceLT, Nat.reduceEqDiff, Nat.zero_add, Nat.add_zero, Nat.le_refl, 
    reduceIte, ne_eq, not_false_eq_true, and_self, true_and, and_true, reduceCtorEq, cond_true, cond_false, c_spec_l03Node, Int.reduceBEq, Int.reduceBNe, bne, Bool.not_true, Bool.not_false, hlen, l1, l2, l3, c1, c2, e1, e2]
    simp only [br, nodeOK, namedM, bne, Int.reduceBEq]
    by_cases a : n = 0 <;> by_cases b : ns.length = 0 <;> by_cases c : t = [] <;> simp [a, b, c, Nat.pos_iff_ne_zero] <;> (try (split <;> simp_all))
  · refine ⟨σ, ?_, Fr.refl _ _⟩
    rw [EE, Ex_run C_spec_l03Node rfl]
    simp (config := {contextual := true, implicitDefEqProofs := false, maxSteps := 1000000}) only [
    ↓PR0, ↓PR1, ↓PR2, PO0, PO1, PO2, PO3, idxV_str, result, resOf, allSome, number, upd, List.map, Option.bind_some, Nat.reduceAdd, Nat.reduceSub, Nat.reduceLeDiff, Nat.reduceLT, Nat.reduceEqDiff, Nat.zero_add, Nat.add_zero, Nat.le_refl, 
    reduceIte, ne_eq, not_false_eq_true, and_self, true_and, and_true, reduceCtorEq, cond_true, cond_false, c_spec_l03Node, Int.reduceBEq, Int.reduceBNe, bne, Bool.not_true, Bool.not_false, hlen, l1, l2, l3, c1, c2, e1, e2]
    simp only [br, nodeOK, namedM, bne, Int.reduceBEq]
    by_cases a : n = 0 <;> by_cases b : ns.length = 0 <;> by_cases c : t = [] <;> simp [a, b, c, Nat.pos_iff_ne_zero] <;> (try (split <;> simp_all))
  · refine ⟨σ, ?_, Fr.refl _ _⟩
    rw [EE, Ex_run C_spec_l03Node rfl]
    simp (config := {contextual := true, implicitDefEqProofs := false, maxSteps := 1000000}) only [
    ↓PR0, ↓PR1, ↓PR2, PO0, PO1, PO2, PO3, idxV_str, result, resOf, allSome, number, upd, List.map, Option.bind_some, Nat.reduceAdd, Nat.reduceSub, Nat.reduceLeDiff, Nat.reduceLT, Nat.reduceEqDiff, Nat.zero_add, Nat.add_zero, Nat.le_refl, 
    reduceIte, ne_eq, not_false_eq_true, and_self, true_and, and_true, reduceCtorEq, cond_true, cond_false, c_spec_l03Node, Int.reduceBEq, Int.reduceBNe, bne, Bool.not_true, Bool.not_false, hlen, l1, l2, l3, c1, c2, e1, e2]
    simp only [br, nodeOK, namedM, bne, Int.reduceBEq]
    by_cases a : n = 0 <;> by_cases b : ns.length = 0 <;> by_cases c : t = [] <;> simp [a, b, c, Nat.pos_iff_ne_zero] <;> (try (split <;> simp_all))
  · refine ⟨σ, ?_, Fr.refl _ _⟩
    rw [EE, Ex_run C_spec_l03Node rfl]
    simp (config := {contextual := true, implicitDefEqProofs := false, maxSteps := 1000000}) only [
    ↓PR0, ↓PR1, ↓PR2, PO0, PO1, PO2, PO3, idxV_str, result, resOf, allSome, number, upd, List.map, Option.bind_some, Nat.reduceAdd, Nat.reduceSub, Nat.reduceLeDiff, Nat.reduceLT, Nat.reduceEqDiff, Nat.zero_add, Nat.add_zero, Nat.le_refl, 
    reduceIte, ne_eq, not_false_eq_true, and_self, true_and, and_true, reduceCtorEq, cond_true, cond_false, c_spec_l03Node, Int.reduceBEq, Int.reduceBNe, bne, Bool.not_true, Bool.not_false, hlen, l1, l2, l3, c1, c2, e1, e2]
    simp only [br, nodeOK, namedM, bne, Int.reduceBEq]
    by_cases a : n = 0 <;> by_cases b : ns.length = 0 <;> by_cases c : t = [] <;> simp [a, b, c, Nat.pos_iff_ne_zero] <;> (try (split <;> simp_all))
  · by_cases hA : (n == 0) = true ∧ decide (0 < ns.length) = false
    · obtain ⟨hA, hB⟩ := hA
      have hC : ns.all identM = true := by simp only [decide_eq_false_iff_not, Nat.not_lt, Nat.le_zero] at hB; rw [List.length_eq_zero_iff.1 hB]; rfl
      refine ⟨σ2, ?_, p1.pre p2⟩
      rw [hC] at q1
      rw [EE, Ex_run C_spec_l03Node rfl]
      simp (config := {contextual := true, implicitDefEqProofs := false, maxSteps := 1000000}) only [
    ↓PR0, ↓PR1, ↓PR2, PO0, PO1, PO2, PO3, idxV_str, result, resOf, allSome, number, upd, List.map, Option.bind_some, Nat.reduceAdd, Nat.reduceSub, Nat.reduceLeDiff, Nat.reduceLT, Nat.reduceEqDiff, Nat.zero_add, Nat.add_zero, Nat.le_refl, 
    reduceIte, ne_eq, not_false_eq_true, and_self, true_and, and_true, reduceCtorEq, cond_true, cond_false, c_spec_l03Node, hA, hB, q1, n2, Int.reduceBEq, Int.reduceBNe, bne, Bool.not_true, Bool.not_false, hlen, l1, l2, l3, c1, c2, e1, e2]
      simp [nodeOK, bne, hA, namedM, hC]
      exact fun _ => by simpa using hB
    · refine ⟨σ, ?_, Fr.refl _ _⟩
      rw [EE, Ex_run C_spec_l03Node rfl]
      have hA' : (n == 0) = false ∨ decide (0 < ns.length) = true := by
        cases h1 : n == 0 <;> cases h2 : decide (0 < ns.length) <;> simp_all
      rcases hA' with hA' | hA'
      · simp (config := {contextual := true, implicitDefEqProofs := false, maxSteps := 1000000}) only [
    ↓PR0, ↓PR1, ↓PR2, PO0, PO1, PO2, PO3, idxV_str, result, resOf, allSome, number, upd, List.map, Option.bind_some, Nat.reduceAdd, Nat.reduceSub, Nat.reduceLeDiff, Nat.reduceLT, Nat.reduceEqDiff, Nat.zero_add, Nat.add_zero, Nat.le_refl, 
    reduceIte, ne_eq, not_false_eq_true, and_self, true_and, and_true, reduceCtorEq, cond_true, cond_false, c_spec_l03Node, hA', Int.reduceBEq, Int.reduceBNe, bne, Bool.not_true, Bool.not_false, hlen, l1, l2, l3, c1, c2, e1, e2]
        simp [nodeOK, bne, hA']
      · simp (config := {contextual := true, implicitDefEqProofs := false, maxSteps := 1000000}) only [
    ↓PR0, ↓PR1, ↓PR2, PO0, PO1, PO2, PO3, idxV_str, result, resOf, allSome, number, upd, List.map, Option.bind_some, Nat.reduceAdd, Nat.reduceSub, Nat.reduceLeDiff, Nat.reduceLT, Nat.reduceEqDiff, Nat.zero_add, Nat.add_zero, Nat.le_refl, 
    reduceIte, ne_eq, not_false_eq_true, and_self, true_and, and_true, reduceCtorEq, cond_true, cond_false, c_spec_l03Node, hA', br_self, Int.reduceBEq, Int.reduceBNe, bne, Bool.not_true, Bool.not_false, hlen, l1, l2, l3, c1, c2, e1, e2]
        simp only [decide_eq_true_eq] at hA'
        simp [nodeOK, bne, hA']
  · refine ⟨σ, ?_, Fr.refl _ _⟩
    rw [EE, Ex_run C_spec_l03Node rfl]
    simp (config := {contextual := true, implicitDefEqProofs := false, maxSteps := 1000000}) only [
    ↓PR0, ↓PR1, ↓PR2, PO0, PO1, PO2, PO3, idxV_str, result, resOf, allSome, number, upd, List.map, Option.bind_some, Nat.reduceAdd, Nat.reduceSub, Nat.reduceLeDiff, Nat.reduceLT, Nat.reduceEqDiff, Nat.zero_add, Nat.add_zero, Nat.le_refl, 
    reduceIte, ne_eq, not_false_eq_true, and_self, true_and, and_true, reduceCtorEq, cond_true, cond_false, c_spec_l03Node, Int.reduceBEq, Int.reduceBNe, bne, Bool.not_true, Bool.not_false, hlen, l1, l2, l3, c1, c2, e1, e2]
    simp only [br, nodeOK, namedM, bne, Int.reduceBEq]
    by_cases a : n = 0 <;> by_cases b : ns.length = 0 <;> by_cases c : t = [] <;> simp [a, b, c, Nat.pos_iff_ne_zero] <;> (try (split <;> simp_all))
  · refine ⟨σ, ?_, Fr.refl _ _⟩
    rw [EE, Ex_run C_spec_l03Node rfl]
    simp (config := {contextual := true, implicitDefEqProofs := false, maxSteps := 1000000}) only [
    ↓PR0, ↓PR1, ↓PR2, PO0, PO1, PO2, PO3, idxV_str, result, resOf, allSome, number, upd, List.map, Option.bind_some, Nat.reduceAdd, Nat.reduceSub, Nat.reduceLeDiff, Nat.reduceLT, Nat.reduceEqDiff, Nat.zero_add, Nat.add_zero, Nat.le_refl, 
    reduceIte, ne_eq, not_false_eq_true, and_self, true_and, and_true, reduceCtorEq, cond_true, cond_false, c_spec_l03Node, Int.reduceBEq, Int.reduceBNe, bne, Bool.not_true, Bool.not_false, hlen, l1, l2, l3, c1, c2, e1, e2]
    simp only [br, nodeOK, namedM, bne, Int.reduceBEq]
    by_cases a : n = 0 <;> by_cases b : ns.length = 0 <;> by_cases c : t = [] <;> simp [a, b, c, Nat.pos_iff_ne_zero] <;> (try (split <;> simp_all))
  · cases hA : n == 0 with
    | false =>
      refine ⟨σ, ?_, Fr.refl _ _⟩
      rw [EE, Ex_run C_spec_l03Node rfl]
      simp (config := {contextual := true, implicitDefEqProofs := false, maxSteps := 1000000}) only [
    ↓PR0, ↓PR1, ↓PR2, PO0, PO1, PO2, PO3, idxV_str, result, resOf, allSome, number, upd, List.map, Option.bind_some, Nat.reduceAdd, Nat.reduceSub, Nat.reduceLeDiff, Nat.reduceLT, Nat.reduceEqDiff, Nat.zero_add, Nat.add_zero, Nat.le_refl, 
    reduceIte, ne_eq, not_false_eq_true, and_self, true_and, and_true, reduceCtorEq, cond_true, cond_false, c_spec_l03Node, hA, Int.reduceBEq, Int.reduceBNe, bne, Bool.not_true, Bool.not_false, hlen, l1, l2, l3, c1, c2, e1, e2]
      simp [nodeOK, bne, hA]
    | true =>
      cases hC : ns.all identM with
      | false =>
        refine ⟨σ1, ?_, p1⟩
        rw [hC] at q1
        rw [EE, Ex_run C_spec_l03Node rfl]
        simp (config := {contextual := true, implicitDefEqProofs := false, maxSteps := 1000000}) only [
    ↓PR0, ↓PR1, ↓PR2, PO0, PO1, PO2, PO3, idxV_str, result, resOf, allSome, number, upd, List.map, Option.bind_some, Nat.reduceAdd, Nat.reduceSub, Nat.reduceLeDiff, Nat.reduceLT, Nat.reduceEqDiff, Nat.zero_add, Nat.add_zero, Nat.le_refl, 
    reduceIte, ne_eq, not_false_eq_true, and_self, true_and, and_true, reduceCtorEq, cond_true, cond_false, c_spec_l03Node, hA, q1, Int.reduceBEq, Int.reduceBNe, bne, Bool.not_true, Bool.not_false, hlen, l1, l2, l3, c1, c2, e1, e2]
        simp [nodeOK, bne, hA, namedM, hC]
      | true =>
        refine ⟨σ2, ?_, p1.pre p2⟩
        rw [hC] at q1
        rw [EE, Ex_run C_spec_l03Node rfl]
        simp (config := {contextual := true, implicitDefEqProofs := false, maxSteps := 1000000}) only [
    ↓PR0, ↓PR1, ↓PR2, PO0, PO1, PO2, PO3, idxV_str, result, resOf, allSome, number, upd, List.map, Option.bind_some, Nat.reduceAdd, Nat.reduceSub, Nat.reduceLeDiff, Nat.reduceLT, Nat.reduceEqDiff, Nat.zero_add, Nat.add_zero, Nat.le_refl, 
    reduceIte, ne_eq, not_false_eq_true, and_self, true_and, and_true, reduceCtorEq, cond_true, cond_false, c_spec_l03Node, hA, q1, n2, Int.reduceBEq, Int.reduceBNe, bne, Bool.not_true, Bool.not_false, hlen, l1, l2, l3, c1, c2, e1, e2]
        simp [nodeOK, bne, hA, namedM, hC]
  · obtain ⟨f1, f2, f3, f4, f5, f6, f7, f8, f9, f10, f11, f12, f13, f14, f15, f16, f17, f18, f19, f20⟩ := hk'.all
    refine ⟨σ, ?_, Fr.refl _ _⟩
    rw [EE, Ex_run C_spec_l03Node rfl]
    simp (config := {contextual := true, implicitDefEqProofs := false, maxSteps := 1000000}) only [
    ↓PR0, ↓PR1, ↓PR2, PO0, PO1, PO2, PO3, idxV_str, result, resOf, allSome, number, upd, List.map, Option.bind_some, Nat.reduceAdd, Nat.reduceSub, Nat.reduceLeDiff, Nat.reduceLT, Nat.reduceEqDiff, Nat.zero_add, Nat.add_zero, Nat.le_refl, 
    reduceIte, ne_eq, not_false_eq_true, and_self, true_and, and_true, reduceCtorEq, cond_true, cond_false, c_spec_l03Node, f1, f2, f3, f4, f5, f6, f7, f8, f9, f10, f11, f12, f13, f14, f15, f16, f17, f18, f19, f20, Int.reduceBEq, 
    Int.reduceBNe, bne, Bool.not_true, Bool.not_false, hlen, l1, l2, l3, c1, c2, e1, e2]
    simp only [br, nodeOK, namedM, bne, f1, f2, f3, f4, f5, f6, f7, f8, f9, f10, f11, f12, f13, f14, f15, f16, f17, f18, f19, f20]
    by_cases a : n = 0 <;> by_cases b : ns.length = 0 <;> by_cases c : t = [] <;> simp [a, b, c, Nat.pos_iff_ne_zero] <;> (try (split <;> simp_all))
end Go.X
