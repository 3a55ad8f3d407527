/- Nodes: the checks of a node's fields, the program's. -/
import Derived.Test.YtfifhpmcbfeadaaGreatDoorXL5
import Derived.Test.YtfifhpmcbfeadaaGreatDoorY6
set_option linter.unusedVariables false
set_option linter.unusedSimpArgs false
set_option maxRecDepth 20000
namespace Go.X
open Go
variable {X : Call}

def numK (k : Int) : Bool := k == 1 || k == 3
def txtK (k : Int) : Bool := k == 2 || k == 5 || k == 6 || k == 7 || k == 10 || k == 11 || k == 12 || k == 17 || k == 20
set_option maxHeartbeats 4000000 in
theorem plain_eq (k n : Int) (t : List UInt8) (an ak : AV) (c1 : cellsOf an = some [an]) (c2 : cellsOf ak = some [ak]) (σ : Store) :
    EE X f_impl_Node_plain [.agg [int k, int n, .str t, an, ak]] σ = some (.agg [int k, int (if numK k = true then n else 0), .str (if txtK k = true then t else []), if (k == 20) = true then an else .nilsl, ak], σ) := by
  rw [EE, Ex_run C_impl_Node_plain rfl]
  rcases kindCases k with rfl | rfl | rfl | rfl | rfl | rfl | rfl | rfl | rfl | rfl | rfl | rfl | rfl | rfl | rfl | rfl | rfl | rfl | rfl | rfl | hk'
  · simp (config := {contextual := true, implicitDefEqProofs := false, maxSteps := 1000000}) only [
    ↓PR0, ↓PR1, ↓PR2, PO0, PO1, PO2, PO3, idxV_str, result, resOf, allSome, number, upd, List.map, Option.bind_some, Nat.reduceAdd, Nat.reduceSub, Nat.reduceLeDiff, Nat.reduceLT, Nat.reduceEqDiff, Nat.zero_add, Nat.add_zero, Nat.le_refl, 
    reduceIte, ne_eq, not_false_eq_true, and_self, true_and, and_true, reduceCtorEq, cond_true, cond_false, c_impl_Node_plain, Int.reduceBEq, c1, c2]
    rfl
  · simp (config := {contextual := true, implicitDefEqProofs := false, maxSteps := 1000000}) only [
    ↓PR0, ↓PR1, ↓PR2, PO0, PO1, PO2, PO3, idxV_str, result, resOf, allSome, number, upd, List.map, Option.bind_some, Nat.reduceAdd, Nat.reduceSub, Nat.reduceLeDiff, Nat.reduceLT, Nat.reduceEqDiff, Nat.zero_add, Nat.add_zero, Nat.le_refl, 
    reduceIte, ne_eq, not_false_eq_true, and_self, true_and, and_true, reduceCtorEq, cond_true, cond_false, c_impl_Node_plain, Int.reduceBEq, c1, c2]
    rfl
  · simp (config := {contextual := true, implicitDefEqProofs := false, maxSteps := 1000000}) only [
    ↓PR0, ↓PR1, ↓PR2, PO0, PO1, PO2, PO3, idxV_str, result, resOf, allSome, number, upd, List.map, Option.bind_some, Nat.reduceAdd, Nat.reduceSub, Nat.reduceLeDiff, Nat.reduceLT, Nat.reduceEqDiff, Nat.zero_add, Nat.add_zero, Nat.le_refl, 
    reduceIte, ne_eq, not_false_eq_true, and_self, true_and, and_true, reduceCtorEq, cond_true, cond_false, c_impl_Node_plain, Int.reduceBEq, c1, c2]
    rfl
  · simp (config := {contextual := true, implicitDefEqProofs := false, maxSteps := 1000000}) only [
    ↓PR0, ↓PR1, ↓PR2, PO0, PO1, PO2, PO3, idxV_str, result, resOf, allSome, number, upd, List.map, Option.bind_some, Nat.reduceAdd, Nat.reduceSub, Nat.reduceLeDiff, Nat.reduceLT, Nat.reduceEqDiff, Nat.zero_add, Nat.add_zero, Nat.le_refl, 
    reduceIte, ne_eq, not_false_eq_true, and_self, true_and, and_true, reduceCtorEq, cond_true, cond_false, c_impl_Node_plain, Int.reduceBEq, c1, c2]
    rfl
  · simp (config := {contextual := true, implicitDefEqProofs := false, maxSteps := 1000000}) only [
    ↓PR0, ↓PR1, ↓PR2, PO0, PO1, PO2, PO3, idxV_str, result, resOf, allSome, number, upd, List.map, Option.bind_some, Nat.reduceAdd, Nat.reduceSub, Nat.reduceLeDiff, Nat.reduceLT, Nat.reduceEqDiff, Nat.zero_add, Nat.add_zero, Nat.le_refl, 
    reduceIte, ne_eq, not_false_eq_true, and_self, true_and, and_true, reduceCtorEq, cond_true, cond_false, c_impl_Node_plain, Int.reduceBEq, c1, c2]
    rfl
  · simp (config := {contextual := true, implicitDefEqProofs := false, maxSteps := 1000000}) only [
    ↓PR0, ↓PR1, ↓PR2, PO0, PO1, PO2, PO3, idxV_str, result, resOf, allSome, number, upd, List.map, Option.bind_some, Nat.reduceAdd, Nat.reduceSub, Nat.reduceLeDiff, Nat.reduceLT, Nat.reduceEqDiff, Nat.zero_add, Nat.add_zero, Nat.le_refl, 
    reduceIte, ne_eq, not_false_eq_true, and_self, true_and, and_true, reduceCtorEq, cond_true, cond_false, c_impl_Node_plain, Int.reduceBEq, c1, c2]
    rfl
  · simp (config := {contextual := true, implicitDefEqProofs := false, maxSteps := 1000000}) only [
    ↓PR0, ↓PR1, ↓PR2, PO0, PO1, PO2, PO3, idxV_str, result, resOf, allSome, number, upd, List.map, Option.bind_some, Nat.reduceAdd, Nat.reduceSub, Nat.reduceLeDiff, Nat.reduceLT, Nat.reduceEqDiff, Nat.zero_add, Nat.add_zero, Nat.le_refl, 
    reduceIte, ne_eq, not_false_eq_true, and_self, true_and, and_true, reduceCtorEq, cond_true, cond_false, c_impl_Node_plain, Int.reduceBEq, c1, c2]
    rfl
  · simp (config := {contextual := true, implicitDefEqProofs := false, maxSteps := 1000000}) only [
    ↓PR0, ↓PR1, ↓PR2, PO0, PO1, PO2, PO3, idxV_str, result, resOf, allSome, number, upd, List.map, Option.bind_some, Nat.reduceAdd, Nat.reduceSub, Nat.reduceLeDiff, Nat.reduceLT, Nat.reduceEqDiff, Nat.zero_add, Nat.add_zero, Nat.le_refl, 
    reduceIte, ne_eq, not_false_eq_true, and_self, true_and, and_true, reduceCtorEq, cond_true, cond_false, c_impl_Node_plain, Int.reduceBEq, c1, c2]
    rfl
  · simp (config := {contextual := true, implicitDefEqProofs := false, maxSteps := 1000000}) only [
    ↓PR0, ↓PR1, ↓PR2, PO0, PO1, PO2, PO3, idxV_str, result, resOf, allSome, number, upd, List.map, Option.bind_some, Nat.reduceAdd, Nat.reduceSub, Nat.reduceLeDiff, Nat.reduceLT, Nat.reduceEqDiff, Nat.zero_add, Nat.add_zero, Nat.le_refl, 
    reduceIte, ne_eq, not_false_eq_true, and_self, true_and, and_true, reduceCtorEq, cond_true, cond_false, c_impl_Node_plain, Int.reduceBEq, c1, c2]
    rfl
  · simp (config := {contextual := true, implicitDefEqProofs := false, maxSteps := 1000000}) only [
    ↓PR0, ↓PR1, ↓PR2, PO0, PO1, PO2, PO3, idxV_str, result, resOf, allSome, number, upd, List.map, Option.bind_some, Nat.reduceAdd, Nat.reduceSub, Nat.reduceLeDiff, Nat.reduceLT, Nat.reduceEqDiff, Nat.zero_add, Nat.add_zero, Nat.le_refl, 
    reduceIte, ne_eq, not_false_eq_true, and_self, true_and, and_true, reduceCtorEq, cond_true, cond_false, c_impl_Node_plain, Int.reduceBEq, c1, c2]
    rfl
  · simp (config := {contextual := true, implicitDefEqProofs := false, maxSteps := 1000000}) only [
    ↓PR0, ↓PR1, ↓PR2, PO0, PO1, PO2, PO3, idxV_str, result, resOf, allSome, number, upd, List.map, Option.bind_some, Nat.reduceAdd, Nat.reduceSub, Nat.reduceLeDiff, Nat.reduceLT, Nat.reduceEqDiff, Nat.zero_add, Nat.add_zero, Nat.le_refl, 
    reduceIte, ne_eq, not_false_eq_true, and_self, true_and, and_true, reduceCtorEq, cond_true, cond_false, c_impl_Node_plain, Int.reduceBEq, c1, c2]
    rfl
  · simp (config := {contextual := true, implicitDefEqProofs := false, maxSteps := 1000000}) only [
    ↓PR0, ↓PR1, ↓PR2, PO0, PO1, PO2, PO3, idxV_str, result, resOf, allSome, number, upd, List.map, Option.bind_some, Nat.reduceAdd, Nat.reduceSub, Nat.reduceLeDiff, Nat.reduceLT, Nat.reduceEqDiff, Nat.zero_add, Nat.add_zero, Nat.le_refl, 
    reduceIte, ne_eq, not_false_eq_true, and_self, true_and, and_true, reduceCtorEq, cond_true, cond_false, c_impl_Node_plain, Int.reduceBEq, c1, c2]
    rfl
  · simp (config := {contextual := true, implicitDefEqProofs := false, maxSteps := 1000000}) only [
    ↓PR0, ↓PR1, ↓PR2, PO0, PO1, PO2, PO3, idxV_str, result, resOf, allSome, number, upd, List.map, Option.bind_some, Nat.reduceAdd, Nat.reduceSub, Nat.reduceLeDiff, Nat.reduceLT, Nat.reduceEqDiff, Nat.zero_add, Nat.add_zero, Nat.le_refl, 
    reduceIte, ne_eq, not_false_eq_true, and_self, true_and, and_true, reduceCtorEq, cond_true, cond_false, c_impl_Node_plain, Int.reduceBEq, c1, c2]
    rfl
  · simp (config := {contextual := true, implicitDefEqProofs := false, maxSteps := 1000000}) only [
    ↓PR0, ↓PR1, ↓PR2, PO0, PO1, PO2, PO3, idxV_str, result, resOf, allSome, number, upd, List.map, Option.bind_some, Nat.reduceAdd, Nat.reduceSub, Nat.reduceLeDiff, Nat.reduceLT, Nat.reduceEqDiff, Nat.zero_add, Nat.add_zero, Nat.le_refl, 
    reduceIte, ne_eq, not_false_eq_true, and_self, true_and, and_true, reduceCtorEq, cond_true, cond_false, c_impl_Node_plain, Int.reduceBEq, c1, c2]
    rfl
  · simp (config := {contextual := true, implicitDefEqProofs := false, maxSteps := 1000000}) only [
    ↓PR0, ↓PR1, ↓PR2, PO0, PO1, PO2, PO3, idxV_str, result, resOf, allSome, number, upd, List.map, Option.bind_some, Nat.reduceAdd, Nat.reduceSub, Nat.reduceLeDiff, Nat.reduceLT, Nat.reduceEqDiff, Nat.zero_add, Nat.add_zero, Nat.le_refl, 
    reduceIte, ne_eq, not_false_eq_true, and_self, true_and, and_true, reduceCtorEq, cond_true, cond_false, c_impl_Node_plain, Int.reduceBEq, c1, c2]
    rfl
  · simp (config := {contextual := true, implicitDefEqProofs := false, maxSteps := 1000000}) only [
    ↓PR0, ↓PR1, ↓PR2, PO0, PO1, PO2, PO3, idxV_str, result, resOf, allSome, number, upd, List.map, Option.bind_some, Nat.reduceAdd, Nat.reduceSub, Nat.reduceLeDiff, Nat.reduceLT, Nat.reduceEqDiff, Nat.zero_add, Nat.add_zero, Nat.le_refl, 
    reduceIte, ne_eq, not_false_eq_true, and_self, true_and, and_true, reduceCtorEq, cond_true, cond_false, c_impl_Node_plain, Int.reduceBEq, c1, c2]
    rfl
  · simp (config := {contextual := true, implicitDefEqProofs := false, maxSteps := 1000000}) only [
    ↓PR0, ↓PR1, ↓PR2, PO0, PO1, PO2, PO3, idxV_str, result, resOf, allSome, number, upd, List.map, Option.bind_some, Nat.reduceAdd, Nat.reduceSub, Nat.reduceLeDiff, Nat.reduceLT, Nat.reduceEqDiff, Nat.zero_add, Nat.add_zero, Nat.le_refl, 
    reduceIte, ne_eq, not_false_eq_true, and_self, true_and, and_true, reduceCtorEq, cond_true, cond_false, c_impl_Node_plain, Int.reduceBEq, c1, c2]
    rfl
  · simp (config := {contextual := true, implicitDefEqProofs := false, maxSteps := 1000000}) only [
    ↓PR0, ↓PR1, ↓PR2, PO0, PO1, PO2, PO3, idxV_str, result, resOf, allSome, number, upd, List.map, Option.bind_some, Nat.reduceAdd, Nat.reduceSub, Nat.reduceLeDiff, Nat.reduceLT, Nat.reduceEqDiff, Nat.zero_add, Nat.add_zero, Nat.le_refl, 
    reduceIte, ne_eq, not_false_eq_true, and_self, true_and, and_true, reduceCtorEq, cond_true, cond_false, c_impl_Node_plain, Int.reduceBEq, c1, c2]
    rfl
  · simp (config := {contextual := true, implicitDefEqProofs := false, maxSteps := 1000000}) only [
    ↓PR0, ↓PR1, ↓PR2, PO0, PO1, PO2, PO3, idxV_str, result, resOf, allSome, number, upd, List.map, Option.bind_some, Nat.reduceAdd, Nat.reduceSub, Nat.reduceLeDiff, Nat.reduceLT, Nat.reduceEqDiff, Nat.zero_add, Nat.add_zero, Nat.le_refl, 
    reduceIte, ne_eq, not_false_eq_true, and_self, true_and, and_true, reduceCtorEq, cond_true, cond_false, c_impl_Node_plain, Int.reduceBEq, c1, c2]
    rfl
  · simp (config := {contextual := true, implicitDefEqProofs := false, maxSteps := 1000000}) only [
    ↓PR0, ↓PR1, ↓PR2, PO0, PO1, PO2, PO3, idxV_str, result, resOf, allSome, number, upd, List.map, Option.bind_some, Nat.reduceAdd, Nat.reduceSub, Nat.reduceLeDiff, Nat.reduceLT, Nat.reduceEqDiff, Nat.zero_add, Nat.add_zero, Nat.le_refl, 
    reduceIte, ne_eq, not_false_eq_true, and_self, true_and, and_true, reduceCtorEq, cond_true, cond_false, c_impl_Node_plain, Int.reduceBEq, c1, c2]
    rfl
  · obtain ⟨f1, f2, f3, f4, f5, f6, f7, f8, f9, f10, f11, f12, f13, f14, f15, f16, f17, f18, f19, f20⟩ := hk'.all
    simp (config := {contextual := true, implicitDefEqProofs := false, maxSteps := 1000000}) only [
    ↓PR0, ↓PR1, ↓PR2, PO0, PO1, PO2, PO3, idxV_str, result, resOf, allSome, number, upd, List.map, Option.bind_some, Nat.reduceAdd, Nat.reduceSub, Nat.reduceLeDiff, Nat.reduceLT, Nat.reduceEqDiff, Nat.zero_add, Nat.add_zero, Nat.le_refl, 
    reduceIte, ne_eq, not_false_eq_true, and_self, true_and, and_true, reduceCtorEq, cond_true, cond_false, c_impl_Node_plain, f1, f2, f3, f4, f5, f6, f7, f8, f9, f10, f11, f12, f13, f14, f15, f16, f17, f18, f19, f20, c1, c2]
    simp [numK, txtK, f1, f2, f3, f5, f6, f7, f10, f11, f12, f17, f20]
theorem fieldsOK1_eq (t : List UInt8) (σ : Store) (ht : LenOk t.length) : ∃ σ', EE X f_impl_Node_fieldsOK_1 [.str t] σ = some (.bool (!identM t), σ') ∧ Pre σ σ' := by
  obtain ⟨σ', h1, h2⟩ := identOK_eq (X := X) t σ ht
  refine ⟨σ', ?_, h2⟩
  rw [EE, Ex_run C_impl_Node_fieldsOK_1 rfl]
  simp (config := {contextual := true, implicitDefEqProofs := false, maxSteps := 1000000}) only [
    ↓PR0, ↓PR1, ↓PR2, PO0, PO1, PO2, PO3, idxV_str, result, resOf, allSome, number, upd, List.map, Option.bind_some, Nat.reduceAdd, Nat.reduceSub, Nat.reduceLeDiff, Nat.reduceLT, Nat.reduceEqDiff, Nat.zero_add, Nat.add_zero, Nat.le_refl, 
    reduceIte, ne_eq, not_false_eq_true, and_self, true_and, and_true, reduceCtorEq, cond_true, cond_false, c_impl_Node_fieldsOK_1, h1]
def one1 : List AV → AV | [v] => v | _ => .undef
theorem ld_one1 {α : Type} {emb : α → AV} {ok : α → Prop} : ∀ (σ : Store) (m : α) (cs : List AV), RP emb ok σ m cs → ld false 1 0 cs = some (one1 cs) := by
  intro σ m cs h; rw [h.1]; rfl
theorem fieldsNames_eq (σ : Store) (ns : List (List UInt8)) (an : AV) (hl : ns.length ≤ 1048576) (ha : RS RT 1 σ ns an) : ∃ σ', EE X f_slices_ContainsFunc_string [an, .fn f_impl_Node_fieldsOK_1 []] σ = some (.bool (ns.any (fun t => !identM t)), σ') ∧ Pre σ σ' :=
  containsF (C := CC) (X := X) (P := RT) (ag := false) (sz := 1) (val := one1) (Q := fun _ => True) C_slices_ContainsFunc_string C_slices_IndexFunc_string (RP.mono _ _) ld_one1 (fun _ _ _ _ => trivial) ns an
    (fun σ m cs _ _ h => by obtain ⟨rfl, h2⟩ := h; exact fieldsOK1_eq (X := X) m σ h2) (by omega) σ ha trivial
set_option maxHeartbeats 4000000 in
theorem fieldsOK_eq (σ : Store) (m : NodeM) (cs : List AV) (h : RNode σ m cs) (hs : m.size ≤ 1048576) : ∃ σ', EE X f_impl_Node_fieldsOK [.agg cs] σ = some (.bool (nodeOK m), σ') ∧ Pre σ σ' := by
  obtain ⟨k, n, t, ns, ks⟩ := m
  obtain ⟨an, ak, rfl, hn, hk, ok⟩ := h
  obtain ⟨g1, g2, g3, g4, g5⟩ := ok
  simp only at hn hk g1 g2 g3 g4 g5
  have hnl : ns.length ≤ 1048576 := by simp only [NodeM.size] at hs; omega
  have w1 := fun a b c => within_eq'' (X := X) a b c σ
  have w2 := wordText_eq (X := X) t σ g3
  have w3 := isUnary_eq (X := X) t σ
  obtain ⟨σ7, b7, p7⟩ := opImpl_eq (X := X) t σ
  obtain ⟨σ8, b8, p8⟩ := identOK_eq (X := X) t σ g3
  obtain ⟨σ9, b9, p9⟩ := fieldsNames_eq (X := X) σ8 ns an hnl (hn.pre (RP.mono _ _) p8)
  have hlen := hn.len
  have c1 := hn.cellsOf
  have c2 := hk.cellsOf
  have pl := plain_eq (X := X) k n t an ak c1 c2 σ
  show ∃ σ', EE X f_impl_Node_fieldsOK [.agg [int k, int n, .str t, an, ak]] σ = some (.bool (nodeOK ⟨k, n, t, ns, ks⟩), σ') ∧ Pre σ σ'
  have e3 : ((0 : Int) != n) = !(n == 0) := by simp only [bne]; rw [Bool.beq_comm]
  have e4 : (([] : List UInt8) != t) = !(t == []) := by simp only [bne]; rw [Bool.beq_comm]
  have e5 : ((0 : Int) != (ns.length : Int)) = !decide (ns.length = 0) := by simp only [bne]; rw [Bool.eq_iff_iff]; simp only [Bool.not_eq_true', beq_eq_false_iff_ne, decide_eq_false_iff_not, ne_eq]; omega
  have e6 : ns.any (fun t => !identM t) = !ns.all identM := by rw [List.not_all_eq_any_not]
  rw [e6] at b9
  rcases kindCases k with rfl | rfl | rfl | rfl | rfl | rfl | rfl | rfl | rfl | rfl | rfl | rfl | rfl | rfl | rfl | rfl | rfl | rfl | rfl | rfl | hk'
  ·
    simp only [numK, txtK, Int.reduceBEq, Bool.or_false, Bool.false_or, Bool.or_true, Bool.true_or, Bool.or_self, if_true, if_false, Bool.false_eq_true] at pl
    refine ⟨σ, ?_, Fr.refl _ _⟩
    rw [EE, Ex_run C_impl_Node_fieldsOK rfl]
    simp (config := {contextual := true, implicitDefEqProofs := false, maxSteps := 1000000}) only [
    ↓PR0, ↓PR1, ↓PR2, PO0, PO1, PO2, PO3, idxV_str, result, resOf, allSome, number, upd, List.map, Option.bind_some, Nat.reduceAdd, Nat.reduceSub, Nat.reduceLeDiff, Nat.reduceLT, Nat.reduceEqDiff, Nat.zero_add, Nat.add_zero, Nat.le_refl, 
    reduceIte, ne_eq, not_false_eq_true, and_self, true_and, and_true, reduceCtorEq, cond_true, cond_false, c_impl_Node_fieldsOK, pl, Int.reduceBEq, bne_self_eq_false, e3, e4, e5, hlen, c1, c2, w1, w2, w3]
    simp only [br, nodeOK, namedM, bne, Int.reduceBEq]
    by_cases a : n = 0 <;> by_cases b : ns.length = 0 <;> by_cases c : t = [] <;> simp [a, b, c, Nat.pos_iff_ne_zero] <;> (try (split <;> simp_all))
  ·
    simp only [numK, txtK, Int.reduceBEq, Bool.or_false, Bool.false_or, Bool.or_true, Bool.true_or, Bool.or_self, if_true, if_false, Bool.false_eq_true] at pl
    refine ⟨σ, ?_, Fr.refl _ _⟩
    rw [EE, Ex_run C_impl_Node_fieldsOK rfl]
    simp (config := {contextual := true, implicitDefEqProofs := false, maxSteps := 1000000}) only [
    ↓PR0, ↓PR1, ↓PR2, PO0, PO1, PO2, PO3, idxV_str, result, resOf, allSome, number, upd, List.map, Option.bind_some, Nat.reduceAdd, Nat.reduceSub, Nat.reduceLeDiff, Nat.reduceLT, Nat.reduceEqDiff, Nat.zero_add, Nat.add_zero, Nat.le_refl, 
    reduceIte, ne_eq, not_false_eq_true, and_self, true_and, and_true, reduceCtorEq, cond_true, cond_false, c_impl_Node_fieldsOK, pl, Int.reduceBEq, bne_self_eq_false, e3, e4, e5, hlen, c1, c2, w1, w2, w3]
    simp only [br, nodeOK, namedM, bne, Int.reduceBEq]
    by_cases a : n = 0 <;> by_cases b : ns.length = 0 <;> by_cases c : t = [] <;> simp [a, b, c, Nat.pos_iff_ne_zero] <;> (try (split <;> simp_all))
  ·
    simp only [numK, txtK, Int.reduceBEq, Bool.or_false, Bool.false_or, Bool.or_true, Bool.true_or, Bool.or_self, if_true, if_false, Bool.false_eq_true] at pl
    refine ⟨σ, ?_, Fr.refl _ _⟩
    rw [EE, Ex_run C_impl_Node_fieldsOK rfl]
    simp (config := {contextual := true, implicitDefEqProofs := false, maxSteps := 1000000}) only [
    ↓PR0, ↓PR1, ↓PR2, PO0, PO1, PO2, PO3, idxV_str, result, resOf, allSome, number, upd, List.map, Option.bind_some, Nat.reduceAdd, Nat.reduceSub, Nat.reduceLeDiff, Nat.reduceLT, Nat.reduceEqDiff, Nat.zero_add, Nat.add_zero, Nat.le_refl, 
    reduceIte, ne_eq, not_false_eq_true, and_self, true_and, and_true, reduceCtorEq, cond_true, cond_false, c_impl_Node_fieldsOK, pl, Int.reduceBEq, bne_self_eq_false, e3, e4, e5, hlen, c1, c2, w1, w2, w3]
    simp only [br, nodeOK, namedM, bne, Int.reduceBEq]
    by_cases a : n = 0 <;> by_cases b : ns.length = 0 <;> by_cases c : t = [] <;> simp [a, b, c, Nat.pos_iff_ne_zero] <;> (try (split <;> simp_all))
  ·
    simp only [numK, txtK, Int.reduceBEq, Bool.or_false, Bool.false_or, Bool.or_true, Bool.true_or, Bool.or_self, if_true, if_false, Bool.false_eq_true] at pl
    refine ⟨σ, ?_, Fr.refl _ _⟩
    rw [EE, Ex_run C_impl_Node_fieldsOK rfl]
    simp (config := {contextual := true, implicitDefEqProofs := false, maxSteps := 1000000}) only [
    ↓PR0, ↓PR1, ↓PR2, PO0, PO1, PO2, PO3, idxV_str, result, resOf, allSome, number, upd, List.map, Option.bind_some, Nat.reduceAdd, Nat.reduceSub, Nat.reduceLeDiff, Nat.reduceLT, Nat.reduceEqDiff, Nat.zero_add, Nat.add_zero, Nat.le_refl, 
    reduceIte, ne_eq, not_false_eq_true, and_self, true_and, and_true, reduceCtorEq, cond_true, cond_false, c_impl_Node_fieldsOK, pl, Int.reduceBEq, bne_self_eq_false, e3, e4, e5, hlen, c1, c2, w1, w2, w3]
    simp only [br, nodeOK, namedM, bne, Int.reduceBEq]
    by_cases a : n = 0 <;> by_cases b : ns.length = 0 <;> by_cases c : t = [] <;> simp [a, b, c, Nat.pos_iff_ne_zero] <;> (try (split <;> simp_all))
  ·
    simp only [numK, txtK, Int.reduceBEq, Bool.or_false, Bool.false_or, Bool.or_true, Bool.true_or, Bool.or_self, if_true, if_false, Bool.false_eq_true] at pl
    by_cases hA : n = 0 ∧ ns.length = 0
    · have hA1 : (n == 0) = true := by simp [hA.1]
      have hA2 : decide (ns.length = 0) = true := by simp [hA.2]
      refine ⟨σ8, ?_, p8⟩
      rw [EE, Ex_run C_impl_Node_fieldsOK rfl]
      simp (config := {contextual := true, implicitDefEqProofs := false, maxSteps := 1000000}) only [
    ↓PR0, ↓PR1, ↓PR2, PO0, PO1, PO2, PO3, idxV_str, result, resOf, allSome, number, upd, List.map, Option.bind_some, Nat.reduceAdd, Nat.reduceSub, Nat.reduceLeDiff, Nat.reduceLT, Nat.reduceEqDiff, Nat.zero_add, Nat.add_zero, Nat.le_refl, 
    reduceIte, ne_eq, not_false_eq_true, and_self, true_and, and_true, reduceCtorEq, cond_true, cond_false, c_impl_Node_fieldsOK, pl, b8, hA1, hA2, Bool.not_true, Int.reduceBEq, bne_self_eq_false, e3, e4, e5, hlen, c1, c2, w1, w2, w3]
      simp [nodeOK, bne, hA, namedM, List.length_eq_zero_iff.1 hA.2]
    · have hA' : (n == 0) = false ∨ (n == 0) = true ∧ decide (ns.length = 0) = false := by
        by_cases a : n = 0 <;> by_cases b : ns.length = 0 <;> simp_all
      refine ⟨σ, ?_, Fr.refl _ _⟩
      rw [EE, Ex_run C_impl_Node_fieldsOK rfl]
      rcases hA' with hA1 | ⟨hA1, hA2⟩
      · simp (config := {contextual := true, implicitDefEqProofs := false, maxSteps := 1000000}) only [
    ↓PR0, ↓PR1, ↓PR2, PO0, PO1, PO2, PO3, idxV_str, result, resOf, allSome, number, upd, List.map, Option.bind_some, Nat.reduceAdd, Nat.reduceSub, Nat.reduceLeDiff, Nat.reduceLT, Nat.reduceEqDiff, Nat.zero_add, Nat.add_zero, Nat.le_refl, 
    reduceIte, ne_eq, not_false_eq_true, and_self, true_and, and_true, reduceCtorEq, cond_true, cond_false, c_impl_Node_fieldsOK, pl, hA1, Bool.not_false, Int.reduceBEq, bne_self_eq_false, e3, e4, e5, hlen, c1, c2, w1, w2, w3]
        simp [nodeOK, bne, hA1]
      · simp (config := {contextual := true, implicitDefEqProofs := false, maxSteps := 1000000}) only [
    ↓PR0, ↓PR1, ↓PR2, PO0, PO1, PO2, PO3, idxV_str, result, resOf, allSome, number, upd, List.map, Option.bind_some, Nat.reduceAdd, Nat.reduceSub, Nat.reduceLeDiff, Nat.reduceLT, Nat.reduceEqDiff, Nat.zero_add, Nat.add_zero, Nat.le_refl, 
    reduceIte, ne_eq, not_false_eq_true, and_self, true_and, and_true, reduceCtorEq, cond_true, cond_false, c_impl_Node_fieldsOK, pl, hA1, hA2, Bool.not_false, Bool.not_true, Int.reduceBEq, bne_self_eq_false, e3, e4, e5, hlen, c1, c2, w1, 
    w2, w3]
        simp only [decide_eq_false_iff_not] at hA2
        simp [nodeOK, bne, hA1, Nat.pos_iff_ne_zero, hA2]
  ·
    simp only [numK, txtK, Int.reduceBEq, Bool.or_false, Bool.false_or, Bool.or_true, Bool.true_or, Bool.or_self, if_true, if_false, Bool.false_eq_true] at pl
    refine ⟨σ, ?_, Fr.refl _ _⟩
    rw [EE, Ex_run C_impl_Node_fieldsOK rfl]
    simp (config := {contextual := true, implicitDefEqProofs := false, maxSteps := 1000000}) only [
    ↓PR0, ↓PR1, ↓PR2, PO0, PO1, PO2, PO3, idxV_str, result, resOf, allSome, number, upd, List.map, Option.bind_some, Nat.reduceAdd, Nat.reduceSub, Nat.reduceLeDiff, Nat.reduceLT, Nat.reduceEqDiff, Nat.zero_add, Nat.add_zero, Nat.le_refl, 
    reduceIte, ne_eq, not_false_eq_true, and_self, true_and, and_true, reduceCtorEq, cond_true, cond_false, c_impl_Node_fieldsOK, pl, Int.reduceBEq, bne_self_eq_false, e3, e4, e5, hlen, c1, c2, w1, w2, w3]
    simp only [br, nodeOK, namedM, bne, Int.reduceBEq]
    by_cases a : n = 0 <;> by_cases b : ns.length = 0 <;> by_cases c : t = [] <;> simp [a, b, c, Nat.pos_iff_ne_zero] <;> (try (split <;> simp_all))
  ·
    simp only [numK, txtK, Int.reduceBEq, Bool.or_false, Bool.false_or, Bool.or_true, Bool.true_or, Bool.or_self, if_true, if_false, Bool.false_eq_true] at pl
    by_cases hA : n = 0 ∧ ns.length = 0
    · have hA1 : (n == 0) = true := by simp [hA.1]
      have hA2 : decide (ns.length = 0) = true := by simp [hA.2]
      refine ⟨σ7, ?_, p7⟩
      rw [EE, Ex_run C_impl_Node_fieldsOK rfl]
      simp (config := {contextual := true, implicitDefEqProofs := false, maxSteps := 1000000}) only [
    ↓PR0, ↓PR1, ↓PR2, PO0, PO1, PO2, PO3, idxV_str, result, resOf, allSome, number, upd, List.map, Option.bind_some, Nat.reduceAdd, Nat.reduceSub, Nat.reduceLeDiff, Nat.reduceLT, Nat.reduceEqDiff, Nat.zero_add, Nat.add_zero, Nat.le_refl, 
    reduceIte, ne_eq, not_false_eq_true, and_self, true_and, and_true, reduceCtorEq, cond_true, cond_false, c_impl_Node_fieldsOK, pl, b7, hA1, hA2, Bool.not_true, Int.reduceBEq, bne_self_eq_false, e3, e4, e5, hlen, c1, c2, w1, w2, w3]
      simp [nodeOK, bne, hA]
    · have hA' : (n == 0) = false ∨ (n == 0) = true ∧ decide (ns.length = 0) = false := by
        by_cases a : n = 0 <;> by_cases b : ns.length = 0 <;> simp_all
      refine ⟨σ, ?_, Fr.refl _ _⟩
      rw [EE, Ex_run C_impl_Node_fieldsOK rfl]
      rcases hA' with hA1 | ⟨hA1, hA2⟩
      · simp (config := {contextual := true, implicitDefEqProofs := false, maxSteps := 1000000}) only [
    ↓PR0, ↓PR1, ↓PR2, PO0, PO1, PO2, PO3, idxV_str, result, resOf, allSome, number, upd, List.map, Option.bind_some, Nat.reduceAdd, Nat.reduceSub, Nat.reduceLeDiff, Nat.reduceLT, Nat.reduceEqDiff, Nat.zero_add, Nat.add_zero, Nat.le_refl, 
    reduceIte, ne_eq, not_false_eq_true, and_self, true_and, and_true, reduceCtorEq, cond_true, cond_false, c_impl_Node_fieldsOK, pl, hA1, Bool.not_false, Int.reduceBEq, bne_self_eq_false, e3, e4, e5, hlen, c1, c2, w1, w2, w3]
        simp [nodeOK, bne, hA1]
      · simp (config := {contextual := true, implicitDefEqProofs := false, maxSteps := 1000000}) only [
    ↓PR0, ↓PR1, ↓PR2, PO0, PO1, PO2, PO3, idxV_str, result, resOf, allSome, number, upd, List.map, Option.bind_some, Nat.reduceAdd, Nat.reduceSub, Nat.reduceLeDiff, Nat.reduceLT, Nat.reduceEqDiff, Nat.zero_add, Nat.add_zero, Nat.le_refl, 
    reduceIte, ne_eq, not_false_eq_true, and_self, true_and, and_true, reduceCtorEq, cond_true, cond_false, c_impl_Node_fieldsOK, pl, hA1, hA2, Bool.not_false, Bool.not_true, Int.reduceBEq, bne_self_eq_false, e3, e4, e5, hlen, c1, c2, w1, 
    w2, w3]
        simp only [decide_eq_false_iff_not] at hA2
        simp [nodeOK, bne, hA1, Nat.pos_iff_ne_zero, hA2]
  ·
    simp only [numK, txtK, Int.reduceBEq, Bool.or_false, Bool.false_or, Bool.or_true, Bool.true_or, Bool.or_self, if_true, if_false, Bool.false_eq_true] at pl
    refine ⟨σ, ?_, Fr.refl _ _⟩
    rw [EE, Ex_run C_impl_Node_fieldsOK rfl]
    simp (config := {contextual := true, implicitDefEqProofs := false, maxSteps := 1000000}) only [
    ↓PR0, ↓PR1, ↓PR2, PO0, PO1, PO2, PO3, idxV_str, result, resOf, allSome, number, upd, List.map, Option.bind_some, Nat.reduceAdd, Nat.reduceSub, Nat.reduceLeDiff, Nat.reduceLT, Nat.reduceEqDiff, Nat.zero_add, Nat.add_zero, Nat.le_refl, 
    reduceIte, ne_eq, not_false_eq_true, and_self, true_and, and_true, reduceCtorEq, cond_true, cond_false, c_impl_Node_fieldsOK, pl, Int.reduceBEq, bne_self_eq_false, e3, e4, e5, hlen, c1, c2, w1, w2, w3]
    simp only [br, nodeOK, namedM, bne, Int.reduceBEq]
    by_cases a : n = 0 <;> by_cases b : ns.length = 0 <;> by_cases c : t = [] <;> simp [a, b, c, Nat.pos_iff_ne_zero] <;> (try (split <;> simp_all))
  ·
    simp only [numK, txtK, Int.reduceBEq, Bool.or_false, Bool.false_or, Bool.or_true, Bool.true_or, Bool.or_self, if_true, if_false, Bool.false_eq_true] at pl
    refine ⟨σ, ?_, Fr.refl _ _⟩
    rw [EE, Ex_run C_impl_Node_fieldsOK rfl]
    simp (config := {contextual := true, implicitDefEqProofs := false, maxSteps := 1000000}) only [
    ↓PR0, ↓PR1, ↓PR2, PO0, PO1, PO2, PO3, idxV_str, result, resOf, allSome, number, upd, List.map, Option.bind_some, Nat.reduceAdd, Nat.reduceSub, Nat.reduceLeDiff, Nat.reduceLT, Nat.reduceEqDiff, Nat.zero_add, Nat.add_zero, Nat.le_refl, 
    reduceIte, ne_eq, not_false_eq_true, and_self, true_and, and_true, reduceCtorEq, cond_true, cond_false, c_impl_Node_fieldsOK, pl, Int.reduceBEq, bne_self_eq_false, e3, e4, e5, hlen, c1, c2, w1, w2, w3]
    simp only [br, nodeOK, namedM, bne, Int.reduceBEq]
    by_cases a : n = 0 <;> by_cases b : ns.length = 0 <;> by_cases c : t = [] <;> simp [a, b, c, Nat.pos_iff_ne_zero] <;> (try (split <;> simp_all))
  ·
    simp only [numK, txtK, Int.reduceBEq, Bool.or_false, Bool.false_or, Bool.or_true, Bool.true_or, Bool.or_self, if_true, if_false, Bool.false_eq_true] at pl
    by_cases hA : n = 0 ∧ ns.length = 0
    · have hA1 : (n == 0) = true := by simp [hA.1]
      have hA2 : decide (ns.length = 0) = true := by simp [hA.2]
      refine ⟨σ8, ?_, p8⟩
      rw [EE, Ex_run C_impl_Node_fieldsOK rfl]
      simp (config := {contextual := true, implicitDefEqProofs := false, maxSteps := 1000000}) only [
    ↓PR0, ↓PR1, ↓PR2, PO0, PO1, PO2, PO3, idxV_str, result, resOf, allSome, number, upd, List.map, Option.bind_some, Nat.reduceAdd, Nat.reduceSub, Nat.reduceLeDiff, Nat.reduceLT, Nat.reduceEqDiff, Nat.zero_add, Nat.add_zero, Nat.le_refl, 
    reduceIte, ne_eq, not_false_eq_true, and_self, true_and, and_true, reduceCtorEq, cond_true, cond_false, c_impl_Node_fieldsOK, pl, b8, hA1, hA2, Bool.not_true, Int.reduceBEq, bne_self_eq_false, e3, e4, e5, hlen, c1, c2, w1, w2, w3]
      simp [nodeOK, bne, hA, namedM, List.length_eq_zero_iff.1 hA.2]
    · have hA' : (n == 0) = false ∨ (n == 0) = true ∧ decide (ns.length = 0) = false := by
        by_cases a : n = 0 <;> by_cases b : ns.length = 0 <;> simp_all
      refine ⟨σ, ?_, Fr.refl _ _⟩
      rw [EE, Ex_run C_impl_Node_fieldsOK rfl]
      rcases hA' with hA1 | ⟨hA1, hA2⟩
      · simp (config := {contextual := true, implicitDefEqProofs := false, maxSteps := 1000000}) only [
    ↓PR0, ↓PR1, ↓PR2, PO0, PO1, PO2, PO3, idxV_str, result, resOf, allSome, number, upd, List.map, Option.bind_some, Nat.reduceAdd, Nat.reduceSub, Nat.reduceLeDiff, Nat.reduceLT, Nat.reduceEqDiff, Nat.zero_add, Nat.add_zero, Nat.le_refl, 
    reduceIte, ne_eq, not_false_eq_true, and_self, true_and, and_true, reduceCtorEq, cond_true, cond_false, c_impl_Node_fieldsOK, pl, hA1, Bool.not_false, Int.reduceBEq, bne_self_eq_false, e3, e4, e5, hlen, c1, c2, w1, w2, w3]
        simp [nodeOK, bne, hA1]
      · simp (config := {contextual := true, implicitDefEqProofs := false, maxSteps := 1000000}) only [
    ↓PR0, ↓PR1, ↓PR2, PO0, PO1, PO2, PO3, idxV_str, result, resOf, allSome, number, upd, List.map, Option.bind_some, Nat.reduceAdd, Nat.reduceSub, Nat.reduceLeDiff, Nat.reduceLT, Nat.reduceEqDiff, Nat.zero_add, Nat.add_zero, Nat.le_refl, 
    reduceIte, ne_eq, not_false_eq_true, and_self, true_and, and_true, reduceCtorEq, cond_true, cond_false, c_impl_Node_fieldsOK, pl, hA1, hA2, Bool.not_false, Bool.not_true, Int.reduceBEq, bne_self_eq_false, e3, e4, e5, hlen, c1, c2, w1, 
    w2, w3]
        simp only [decide_eq_false_iff_not] at hA2
        simp [nodeOK, bne, hA1, Nat.pos_iff_ne_zero, hA2]
  ·
    simp only [numK, txtK, Int.reduceBEq, Bool.or_false, Bool.false_or, Bool.or_true, Bool.true_or, Bool.or_self, if_true, if_false, Bool.false_eq_true] at pl
    by_cases hA : n = 0 ∧ ns.length = 0
    · have hA1 : (n == 0) = true := by simp [hA.1]
      have hA2 : decide (ns.length = 0) = true := by simp [hA.2]
      refine ⟨σ8, ?_, p8⟩
      rw [EE, Ex_run C_impl_Node_fieldsOK rfl]
      simp (config := {contextual := true, implicitDefEqProofs := false, maxSteps := 1000000}) only [
    ↓PR0, ↓PR1, ↓PR2, PO0, PO1, PO2, PO3, idxV_str, result, resOf, allSome, number, upd, List.map, Option.bind_some, Nat.reduceAdd, Nat.reduceSub, Nat.reduceLeDiff, Nat.reduceLT, Nat.reduceEqDiff, Nat.zero_add, Nat.add_zero, Nat.le_refl, 
    reduceIte, ne_eq, not_false_eq_true, and_self, true_and, and_true, reduceCtorEq, cond_true, cond_false, c_impl_Node_fieldsOK, pl, b8, hA1, hA2, Bool.not_true, Int.reduceBEq, bne_self_eq_false, e3, e4, e5, hlen, c1, c2, w1, w2, w3]
      simp [nodeOK, bne, hA, namedM, List.length_eq_zero_iff.1 hA.2]
    · have hA' : (n == 0) = false ∨ (n == 0) = true ∧ decide (ns.length = 0) = false := by
        by_cases a : n = 0 <;> by_cases b : ns.length = 0 <;> simp_all
      refine ⟨σ, ?_, Fr.refl _ _⟩
      rw [EE, Ex_run C_impl_Node_fieldsOK rfl]
      rcases hA' with hA1 | ⟨hA1, hA2⟩
      · simp (config := {contextual := true, implicitDefEqProofs := false, maxSteps := 1000000}) only [
    ↓PR0, ↓PR1, ↓PR2, PO0, PO1, PO2, PO3, idxV_str, result, resOf, allSome, number, upd, List.map, Option.bind_some, Nat.reduceAdd, Nat.reduceSub, Nat.reduceLeDiff, Nat.reduceLT, Nat.reduceEqDiff, Nat.zero_add, Nat.add_zero, Nat.le_refl, 
    reduceIte, ne_eq, not_false_eq_true, and_self, true_and, and_true, reduceCtorEq, cond_true, cond_false, c_impl_Node_fieldsOK, pl, hA1, Bool.not_false, Int.reduceBEq, bne_self_eq_false, e3, e4, e5, hlen, c1, c2, w1, w2, w3]
        simp [nodeOK, bne, hA1]
      · simp (config := {contextual := true, implicitDefEqProofs := false, maxSteps := 1000000}) only [
    ↓PR0, ↓PR1, ↓PR2, PO0, PO1, PO2, PO3, idxV_str, result, resOf, allSome, number, upd, List.map, Option.bind_some, Nat.reduceAdd, Nat.reduceSub, Nat.reduceLeDiff, Nat.reduceLT, Nat.reduceEqDiff, Nat.zero_add, Nat.add_zero, Nat.le_refl, 
    reduceIte, ne_eq, not_false_eq_true, and_self, true_and, and_true, reduceCtorEq, cond_true, cond_false, c_impl_Node_fieldsOK, pl, hA1, hA2, Bool.not_false, Bool.not_true, Int.reduceBEq, bne_self_eq_false, e3, e4, e5, hlen, c1, c2, w1, 
    w2, w3]
        simp only [decide_eq_false_iff_not] at hA2
        simp [nodeOK, bne, hA1, Nat.pos_iff_ne_zero, hA2]
  ·
    simp only [numK, txtK, Int.reduceBEq, Bool.or_false, Bool.false_or, Bool.or_true, Bool.true_or, Bool.or_self, if_true, if_false, Bool.false_eq_true] at pl
    by_cases hA : n = 0 ∧ ns.length = 0
    · have hA1 : (n == 0) = true := by simp [hA.1]
      have hA2 : decide (ns.length = 0) = true := by simp [hA.2]
      refine ⟨σ8, ?_, p8⟩
      rw [EE, Ex_run C_impl_Node_fieldsOK rfl]
      simp (config := {contextual := true, implicitDefEqProofs := false, maxSteps := 1000000}) only [
    ↓PR0, ↓PR1, ↓PR2, PO0, PO1, PO2, PO3, idxV_str, result, resOf, allSome, number, upd, List.map, Option.bind_some, Nat.reduceAdd, Nat.reduceSub, Nat.reduceLeDiff, Nat.reduceLT, Nat.reduceEqDiff, Nat.zero_add, Nat.add_zero, Nat.le_refl, 
    reduceIte, ne_eq, not_false_eq_true, and_self, true_and, and_true, reduceCtorEq, cond_true, cond_false, c_impl_Node_fieldsOK, pl, b8, hA1, hA2, Bool.not_true, Int.reduceBEq, bne_self_eq_false, e3, e4, e5, hlen, c1, c2, w1, w2, w3]
      simp [nodeOK, bne, hA, namedM, List.length_eq_zero_iff.1 hA.2]
    · have hA' : (n == 0) = false ∨ (n == 0) = true ∧ decide (ns.length = 0) = false := by
        by_cases a : n = 0 <;> by_cases b : ns.length = 0 <;> simp_all
      refine ⟨σ, ?_, Fr.refl _ _⟩
      rw [EE, Ex_run C_impl_Node_fieldsOK rfl]
      rcases hA' with hA1 | ⟨hA1, hA2⟩
      · simp (config := {contextual := true, implicitDefEqProofs := false, maxSteps := 1000000}) only [
    ↓PR0, ↓PR1, ↓PR2, PO0, PO1, PO2, PO3, idxV_str, result, resOf, allSome, number, upd, List.map, Option.bind_some, Nat.reduceAdd, Nat.reduceSub, Nat.reduceLeDiff, Nat.reduceLT, Nat.reduceEqDiff, Nat.zero_add, Nat.add_zero, Nat.le_refl, 
    reduceIte, ne_eq, not_false_eq_true, and_self, true_and, and_true, reduceCtorEq, cond_true, cond_false, c_impl_Node_fieldsOK, pl, hA1, Bool.not_false, Int.reduceBEq, bne_self_eq_false, e3, e4, e5, hlen, c1, c2, w1, w2, w3]
        simp [nodeOK, bne, hA1]
      · simp (config := {contextual := true, implicitDefEqProofs := false, maxSteps := 1000000}) only [
    ↓PR0, ↓PR1, ↓PR2, PO0, PO1, PO2, PO3, idxV_str, result, resOf, allSome, number, upd, List.map, Option.bind_some, Nat.reduceAdd, Nat.reduceSub, Nat.reduceLeDiff, Nat.reduceLT, Nat.reduceEqDiff, Nat.zero_add, Nat.add_zero, Nat.le_refl, 
    reduceIte, ne_eq, not_false_eq_true, and_self, true_and, and_true, reduceCtorEq, cond_true, cond_false, c_impl_Node_fieldsOK, pl, hA1, hA2, Bool.not_false, Bool.not_true, Int.reduceBEq, bne_self_eq_false, e3, e4, e5, hlen, c1, c2, w1, 
    w2, w3]
        simp only [decide_eq_false_iff_not] at hA2
        simp [nodeOK, bne, hA1, Nat.pos_iff_ne_zero, hA2]
  ·
    simp only [numK, txtK, Int.reduceBEq, Bool.or_false, Bool.false_or, Bool.or_true, Bool.true_or, Bool.or_self, if_true, if_false, Bool.false_eq_true] at pl
    refine ⟨σ, ?_, Fr.refl _ _⟩
    rw [EE, Ex_run C_impl_Node_fieldsOK rfl]
    simp (config := {contextual := true, implicitDefEqProofs := false, maxSteps := 1000000}) only [
    ↓PR0, ↓PR1, ↓PR2, PO0, PO1, PO2, PO3, idxV_str, result, resOf, allSome, number, upd, List.map, Option.bind_some, Nat.reduceAdd, Nat.reduceSub, Nat.reduceLeDiff, Nat.reduceLT, Nat.reduceEqDiff, Nat.zero_add, Nat.add_zero, Nat.le_refl, 
    reduceIte, ne_eq, not_false_eq_true, and_self, true_and, and_true, reduceCtorEq, cond_true, cond_false, c_impl_Node_fieldsOK, pl, Int.reduceBEq, bne_self_eq_false, e3, e4, e5, hlen, c1, c2, w1, w2, w3]
    simp only [br, nodeOK, namedM, bne, Int.reduceBEq]
    by_cases a : n = 0 <;> by_cases b : ns.length = 0 <;> by_cases c : t = [] <;> simp [a, b, c, Nat.pos_iff_ne_zero] <;> (try (split <;> simp_all))
  ·
    simp only [numK, txtK, Int.reduceBEq, Bool.or_false, Bool.false_or, Bool.or_true, Bool.true_or, Bool.or_self, if_true, if_false, Bool.false_eq_true] at pl
    refine ⟨σ, ?_, Fr.refl _ _⟩
    rw [EE, Ex_run C_impl_Node_fieldsOK rfl]
    simp (config := {contextual := true, implicitDefEqProofs := false, maxSteps := 1000000}) only [
    ↓PR0, ↓PR1, ↓PR2, PO0, PO1, PO2, PO3, idxV_str, result, resOf, allSome, number, upd, List.map, Option.bind_some, Nat.reduceAdd, Nat.reduceSub, Nat.reduceLeDiff, Nat.reduceLT, Nat.reduceEqDiff, Nat.zero_add, Nat.add_zero, Nat.le_refl, 
    reduceIte, ne_eq, not_false_eq_true, and_self, true_and, and_true, reduceCtorEq, cond_true, cond_false, c_impl_Node_fieldsOK, pl, Int.reduceBEq, bne_self_eq_false, e3, e4, e5, hlen, c1, c2, w1, w2, w3]
    simp only [br, nodeOK, namedM, bne, Int.reduceBEq]
    by_cases a : n = 0 <;> by_cases b : ns.length = 0 <;> by_cases c : t = [] <;> simp [a, b, c, Nat.pos_iff_ne_zero] <;> (try (split <;> simp_all))
  ·
    simp only [numK, txtK, Int.reduceBEq, Bool.or_false, Bool.false_or, Bool.or_true, Bool.true_or, Bool.or_self, if_true, if_false, Bool.false_eq_true] at pl
    refine ⟨σ, ?_, Fr.refl _ _⟩
    rw [EE, Ex_run C_impl_Node_fieldsOK rfl]
    simp (config := {contextual := true, implicitDefEqProofs := false, maxSteps := 1000000}) only [
    ↓PR0, ↓PR1, ↓PR2, PO0, PO1, PO2, PO3, idxV_str, result, resOf, allSome, number, upd, List.map, Option.bind_some, Nat.reduceAdd, Nat.reduceSub, Nat.reduceLeDiff, Nat.reduceLT, Nat.reduceEqDiff, Nat.zero_add, Nat.add_zero, Nat.le_refl, 
    reduceIte, ne_eq, not_false_eq_true, and_self, true_and, and_true, reduceCtorEq, cond_true, cond_false, c_impl_Node_fieldsOK, pl, Int.reduceBEq, bne_self_eq_false, e3, e4, e5, hlen, c1, c2, w1, w2, w3]
    simp only [br, nodeOK, namedM, bne, Int.reduceBEq]
    by_cases a : n = 0 <;> by_cases b : ns.length = 0 <;> by_cases c : t = [] <;> simp [a, b, c, Nat.pos_iff_ne_zero] <;> (try (split <;> simp_all))
  ·
    simp only [numK, txtK, Int.reduceBEq, Bool.or_false, Bool.false_or, Bool.or_true, Bool.true_or, Bool.or_self, if_true, if_false, Bool.false_eq_true] at pl
    refine ⟨σ, ?_, Fr.refl _ _⟩
    rw [EE, Ex_run C_impl_Node_fieldsOK rfl]
    simp (config := {contextual := true, implicitDefEqProofs := false, maxSteps := 1000000}) only [
    ↓PR0, ↓PR1, ↓PR2, PO0, PO1, PO2, PO3, idxV_str, result, resOf, allSome, number, upd, List.map, Option.bind_some, Nat.reduceAdd, Nat.reduceSub, Nat.reduceLeDiff, Nat.reduceLT, Nat.reduceEqDiff, Nat.zero_add, Nat.add_zero, Nat.le_refl, 
    reduceIte, ne_eq, not_false_eq_true, and_self, true_and, and_true, reduceCtorEq, cond_true, cond_false, c_impl_Node_fieldsOK, pl, Int.reduceBEq, bne_self_eq_false, e3, e4, e5, hlen, c1, c2, w1, w2, w3]
    simp only [br, nodeOK, namedM, bne, Int.reduceBEq]
    by_cases a : n = 0 <;> by_cases b : ns.length = 0 <;> by_cases c : t = [] <;> simp [a, b, c, Nat.pos_iff_ne_zero] <;> (try (split <;> simp_all))
  ·
    simp only [numK, txtK, Int.reduceBEq, Bool.or_false, Bool.false_or, Bool.or_true, Bool.true_or, Bool.or_self, if_true, if_false, Bool.false_eq_true] at pl
    by_cases hA : n = 0 ∧ ns.length = 0
    · have hA1 : (n == 0) = true := by simp [hA.1]
      have hA2 : decide (ns.length = 0) = true := by simp [hA.2]
      refine ⟨σ8, ?_, p8⟩
      rw [EE, Ex_run C_impl_Node_fieldsOK rfl]
      simp (config := {contextual := true, implicitDefEqProofs := false, maxSteps := 1000000}) only [
    ↓PR0, ↓PR1, ↓PR2, PO0, PO1, PO2, PO3, idxV_str, result, resOf, allSome, number, upd, List.map, Option.bind_some, Nat.reduceAdd, Nat.reduceSub, Nat.reduceLeDiff, Nat.reduceLT, Nat.reduceEqDiff, Nat.zero_add, Nat.add_zero, Nat.le_refl, 
    reduceIte, ne_eq, not_false_eq_true, and_self, true_and, and_true, reduceCtorEq, cond_true, cond_false, c_impl_Node_fieldsOK, pl, b8, hA1, hA2, Bool.not_true, Int.reduceBEq, bne_self_eq_false, e3, e4, e5, hlen, c1, c2, w1, w2, w3]
      simp [nodeOK, bne, hA, namedM, List.length_eq_zero_iff.1 hA.2]
    · have hA' : (n == 0) = false ∨ (n == 0) = true ∧ decide (ns.length = 0) = false := by
        by_cases a : n = 0 <;> by_cases b : ns.length = 0 <;> simp_all
      refine ⟨σ, ?_, Fr.refl _ _⟩
      rw [EE, Ex_run C_impl_Node_fieldsOK rfl]
      rcases hA' with hA1 | ⟨hA1, hA2⟩
      · simp (config := {contextual := true, implicitDefEqProofs := false, maxSteps := 1000000}) only [
    ↓PR0, ↓PR1, ↓PR2, PO0, PO1, PO2, PO3, idxV_str, result, resOf, allSome, number, upd, List.map, Option.bind_some, Nat.reduceAdd, Nat.reduceSub, Nat.reduceLeDiff, Nat.reduceLT, Nat.reduceEqDiff, Nat.zero_add, Nat.add_zero, Nat.le_refl, 
    reduceIte, ne_eq, not_false_eq_true, and_self, true_and, and_true, reduceCtorEq, cond_true, cond_false, c_impl_Node_fieldsOK, pl, hA1, Bool.not_false, Int.reduceBEq, bne_self_eq_false, e3, e4, e5, hlen, c1, c2, w1, w2, w3]
        simp [nodeOK, bne, hA1]
      · simp (config := {contextual := true, implicitDefEqProofs := false, maxSteps := 1000000}) only [
    ↓PR0, ↓PR1, ↓PR2, PO0, PO1, PO2, PO3, idxV_str, result, resOf, allSome, number, upd, List.map, Option.bind_some, Nat.reduceAdd, Nat.reduceSub, Nat.reduceLeDiff, Nat.reduceLT, Nat.reduceEqDiff, Nat.zero_add, Nat.add_zero, Nat.le_refl, 
    reduceIte, ne_eq, not_false_eq_true, and_self, true_and, and_true, reduceCtorEq, cond_true, cond_false, c_impl_Node_fieldsOK, pl, hA1, hA2, Bool.not_false, Bool.not_true, Int.reduceBEq, bne_self_eq_false, e3, e4, e5, hlen, c1, c2, w1, 
    w2, w3]
        simp only [decide_eq_false_iff_not] at hA2
        simp [nodeOK, bne, hA1, Nat.pos_iff_ne_zero, hA2]
  ·
    simp only [numK, txtK, Int.reduceBEq, Bool.or_false, Bool.false_or, Bool.or_true, Bool.true_or, Bool.or_self, if_true, if_false, Bool.false_eq_true] at pl
    refine ⟨σ, ?_, Fr.refl _ _⟩
    rw [EE, Ex_run C_impl_Node_fieldsOK rfl]
    simp (config := {contextual := true, implicitDefEqProofs := false, maxSteps := 1000000}) only [
    ↓PR0, ↓PR1, ↓PR2, PO0, PO1, PO2, PO3, idxV_str, result, resOf, allSome, number, upd, List.map, Option.bind_some, Nat.reduceAdd, Nat.reduceSub, Nat.reduceLeDiff, Nat.reduceLT, Nat.reduceEqDiff, Nat.zero_add, Nat.add_zero, Nat.le_refl, 
    reduceIte, ne_eq, not_false_eq_true, and_self, true_and, and_true, reduceCtorEq, cond_true, cond_false, c_impl_Node_fieldsOK, pl, Int.reduceBEq, bne_self_eq_false, e3, e4, e5, hlen, c1, c2, w1, w2, w3]
    simp only [br, nodeOK, namedM, bne, Int.reduceBEq]
    by_cases a : n = 0 <;> by_cases b : ns.length = 0 <;> by_cases c : t = [] <;> simp [a, b, c, Nat.pos_iff_ne_zero] <;> (try (split <;> simp_all))
  ·
    simp only [numK, txtK, Int.reduceBEq, Bool.or_false, Bool.false_or, Bool.or_true, Bool.true_or, Bool.or_self, if_true, if_false, Bool.false_eq_true] at pl
    refine ⟨σ, ?_, Fr.refl _ _⟩
    rw [EE, Ex_run C_impl_Node_fieldsOK rfl]
    simp (config := {contextual := true, implicitDefEqProofs := false, maxSteps := 1000000}) only [
    ↓PR0, ↓PR1, ↓PR2, PO0, PO1, PO2, PO3, idxV_str, result, resOf, allSome, number, upd, List.map, Option.bind_some, Nat.reduceAdd, Nat.reduceSub, Nat.reduceLeDiff, Nat.reduceLT, Nat.reduceEqDiff, Nat.zero_add, Nat.add_zero, Nat.le_refl, 
    reduceIte, ne_eq, not_false_eq_true, and_self, true_and, and_true, reduceCtorEq, cond_true, cond_false, c_impl_Node_fieldsOK, pl, Int.reduceBEq, bne_self_eq_false, e3, e4, e5, hlen, c1, c2, w1, w2, w3]
    simp only [br, nodeOK, namedM, bne, Int.reduceBEq]
    by_cases a : n = 0 <;> by_cases b : ns.length = 0 <;> by_cases c : t = [] <;> simp [a, b, c, Nat.pos_iff_ne_zero] <;> (try (split <;> simp_all))
  ·
    simp only [numK, txtK, Int.reduceBEq, Bool.or_false, Bool.false_or, Bool.or_true, Bool.true_or, Bool.or_self, if_true, if_false, Bool.false_eq_true] at pl
    by_cases hA : n = 0
    · have hA1 : (n == 0) = true := by simp [hA]
      cases hI : identM t with
      | false =>
        rw [hI] at b8
        refine ⟨σ8, ?_, p8⟩
        rw [EE, Ex_run C_impl_Node_fieldsOK rfl]
        simp (config := {contextual := true, implicitDefEqProofs := false, maxSteps := 1000000}) only [
    ↓PR0, ↓PR1, ↓PR2, PO0, PO1, PO2, PO3, idxV_str, result, resOf, allSome, number, upd, List.map, Option.bind_some, Nat.reduceAdd, Nat.reduceSub, Nat.reduceLeDiff, Nat.reduceLT, Nat.reduceEqDiff, Nat.zero_add, Nat.add_zero, Nat.le_refl, 
    reduceIte, ne_eq, not_false_eq_true, and_self, true_and, and_true, reduceCtorEq, cond_true, cond_false, c_impl_Node_fieldsOK, pl, b8, hA1, Bool.not_true, Int.reduceBEq, bne_self_eq_false, e3, e4, e5, hlen, c1, c2, w1, w2, w3]
        simp [nodeOK, bne, hA, namedM, hI]
      | true =>
        rw [hI] at b8
        refine ⟨σ9, ?_, p8.pre p9⟩
        rw [EE, Ex_run C_impl_Node_fieldsOK rfl]
        simp (config := {contextual := true, implicitDefEqProofs := false, maxSteps := 1000000}) only [
    ↓PR0, ↓PR1, ↓PR2, PO0, PO1, PO2, PO3, idxV_str, result, resOf, allSome, number, upd, List.map, Option.bind_some, Nat.reduceAdd, Nat.reduceSub, Nat.reduceLeDiff, Nat.reduceLT, Nat.reduceEqDiff, Nat.zero_add, Nat.add_zero, Nat.le_refl, 
    reduceIte, ne_eq, not_false_eq_true, and_self, true_and, and_true, reduceCtorEq, cond_true, cond_false, c_impl_Node_fieldsOK, pl, b8, b9, hA1, Bool.not_true, Int.reduceBEq, bne_self_eq_false, e3, e4, e5, hlen, c1, c2, w1, w2, w3]
        simp [nodeOK, bne, hA, namedM, hI]
    · have hA1 : (n == 0) = false := by simp [hA]
      refine ⟨σ, ?_, Fr.refl _ _⟩
      rw [EE, Ex_run C_impl_Node_fieldsOK rfl]
      simp (config := {contextual := true, implicitDefEqProofs := false, maxSteps := 1000000}) only [
    ↓PR0, ↓PR1, ↓PR2, PO0, PO1, PO2, PO3, idxV_str, result, resOf, allSome, number, upd, List.map, Option.bind_some, Nat.reduceAdd, Nat.reduceSub, Nat.reduceLeDiff, Nat.reduceLT, Nat.reduceEqDiff, Nat.zero_add, Nat.add_zero, Nat.le_refl, 
    reduceIte, ne_eq, not_false_eq_true, and_self, true_and, and_true, reduceCtorEq, cond_true, cond_false, c_impl_Node_fieldsOK, pl, hA1, Bool.not_false, Int.reduceBEq, bne_self_eq_false, e3, e4, e5, hlen, c1, c2, w1, w2, w3]
      simp [nodeOK, bne, hA]
  · obtain ⟨f1, f2, f3, f4, f5, f6, f7, f8, f9, f10, f11, f12, f13, f14, f15, f16, f17, f18, f19, f20⟩ := hk'.all
    simp only [numK, txtK, f1, f2, f3, f5, f6, f7, f10, f11, f12, f17, f20, Bool.or_false, Bool.or_self, if_false, Bool.false_eq_true] at pl
    refine ⟨σ, ?_, Fr.refl _ _⟩
    rw [EE, Ex_run C_impl_Node_fieldsOK rfl]
    simp (config := {contextual := true, implicitDefEqProofs := false, maxSteps := 1000000}) only [
    ↓PR0, ↓PR1, ↓PR2, PO0, PO1, PO2, PO3, idxV_str, result, resOf, allSome, number, upd, List.map, Option.bind_some, Nat.reduceAdd, Nat.reduceSub, Nat.reduceLeDiff, Nat.reduceLT, Nat.reduceEqDiff, Nat.zero_add, Nat.add_zero, Nat.le_refl, 
    reduceIte, ne_eq, not_false_eq_true, and_self, true_and, and_true, reduceCtorEq, cond_true, cond_false, c_impl_Node_fieldsOK, pl, f1, f2, f3, f4, f5, f6, f7, f8, f9, f10, f11, f12, f13, f14, f15, f16, f17, f18, f19, f20, Int.reduceBEq, 
    bne_self_eq_false, e3, e4, e5, hlen, c1, c2, w1, w2, w3]
    simp only [br, nodeOK, namedM, bne, f1, f2, f3, f4, f5, f6, f7, f8, f9, f10, f11, f12, f13, f14, f15, f16, f17, f18, f19, f20]
    have hr : (decide (4 ≤ k) && decide (k ≤ 19)) = (decide (4 ≤ k) && decide (k ≤ 18)) := by
      simp only [beq_eq_false_iff_ne] at f19; rw [Bool.eq_iff_iff]; simp; omega
    by_cases a : n = 0 <;> by_cases b : ns.length = 0 <;> by_cases c : t = [] <;> simp [a, b, c, hr, Nat.pos_iff_ne_zero] <;> (try (split <;> simp_all))
end Go.X
