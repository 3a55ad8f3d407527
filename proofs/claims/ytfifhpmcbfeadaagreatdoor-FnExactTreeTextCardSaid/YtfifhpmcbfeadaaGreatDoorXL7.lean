/- Nodes: what kids must be, of both. -/
import Derived.Test.YtfifhpmcbfeadaaGreatDoorXL6
import Derived.Test.YtfifhpmcbfeadaaGreatDoorXA1
set_option linter.unusedVariables false
set_option linter.unusedSimpArgs false
set_option maxRecDepth 20000
namespace Go.X
open Go
variable {X : Call}

/-- What the library's Repeat does with one byte. -/
def RepX (X : Call) : Prop := ∀ (b : UInt8) (n : Nat) (σ : Store), n ≤ 1048576 → EE X f_strings_Repeat [.str [b], int n] σ = some (.str (List.replicate n b), σ)
def kindsI (m : NodeM) : List UInt8 :=
  if oneK m.kind = true then [101] else if twoK m.kind = true then [101, 101]
  else if m.kind = 13 then (if m.kids.length ≤ 2 then [101, 98] else [101, 98, 98])
  else if m.kind = 14 then [101, 98] else if m.kind = 17 then [98, 98] else if m.kind = 20 then [98]
  else if m.kind = 10 then List.replicate m.kids.length 101 else if m.kind = 18 then List.replicate m.kids.length 115 else []
def sortB (b : UInt8) : Int := if b = 101 then 1 else if b = 98 then 2 else 3
theorem kindsI_len (m : NodeM) : (kindsI m).length = m.kids.length ↔ (sortsM m).length = m.kids.length := by
  simp only [kindsI, sortsM]
  split
  · rfl
  · split
    · rfl
    · split
      · split <;> split <;> simp <;> omega
      · split
        · rfl
        · split
          · rfl
          · split
            · rfl
            · split
              · simp
              · split
                · simp
                · rfl
theorem kindsI_map (m : NodeM) (h : (sortsM m).length = m.kids.length) : (kindsI m).map sortB = sortsM m := by
  have h' := (kindsI_len m).2 h
  revert h h'
  simp only [kindsI, sortsM]
  split
  · intros; rfl
  · split
    · intros; rfl
    · split
      · split <;> split <;> intro h h' <;> first | rfl | (simp at h h'; omega)
      · split
        · intros; rfl
        · split
          · intros; rfl
          · split
            · intros; rfl
            · split
              · intros; simp [sortB]
              · split
                · intros; simp [sortB]
                · intros; rfl
set_option maxHeartbeats 4000000 in
theorem kidKinds_eq (hX : RepX X) (σ : Store) (m : NodeM) (cs : List AV) (h : RNode σ m cs) (hs : m.size ≤ 1048576) : EE X f_impl_kidKinds [.agg cs] σ = some (.str (kindsI m), σ) := by
  obtain ⟨k, n, t, ns, ks⟩ := m
  obtain ⟨an, ak, rfl, hn, hk, ok⟩ := h
  simp only at hn hk
  have hlen := hk.len
  have hr := fun b => hX b ks.length σ (by simp only [NodeM.size] at hs; omega)
  have c1 := hn.cellsOf
  have c2 := hk.cellsOf
  show EE X f_impl_kidKinds [.agg [int k, int n, .str t, an, ak]] σ = some (.str (kindsI ⟨k, n, t, ns, ks⟩), σ)
  rw [EE, Ex_run C_impl_kidKinds rfl]
  rcases kindCases k with rfl | rfl | rfl | rfl | rfl | rfl | rfl | rfl | rfl | rfl | rfl | rfl | rfl | rfl | rfl | rfl | rfl | rfl | rfl | rfl | hk'
  · simp (config := {contextual := true, implicitDefEqProofs := false, maxSteps := 1000000}) only [
    ↓PR0, ↓PR1, ↓PR2, PO0, PO1, PO2, PO3, idxV_str, result, resOf, allSome, number, upd, List.map, Option.bind_some, Nat.reduceAdd, Nat.reduceSub, Nat.reduceLeDiff, Nat.reduceLT, Nat.reduceEqDiff, Nat.zero_add, Nat.add_zero, Nat.le_refl, 
    reduceIte, ne_eq, not_false_eq_true, and_self, true_and, and_true, reduceCtorEq, cond_true, cond_false, c_impl_kidKinds, Int.reduceBEq, hlen, hr, c1, c2]
    rfl
  · simp (config := {contextual := true, implicitDefEqProofs := false, maxSteps := 1000000}) only [
    ↓PR0, ↓PR1, ↓PR2, PO0, PO1, PO2, PO3, idxV_str, result, resOf, allSome, number, upd, List.map, Option.bind_some, Nat.reduceAdd, Nat.reduceSub, Nat.reduceLeDiff, Nat.reduceLT, Nat.reduceEqDiff, Nat.zero_add, Nat.add_zero, Nat.le_refl, 
    reduceIte, ne_eq, not_false_eq_true, and_self, true_and, and_true, reduceCtorEq, cond_true, cond_false, c_impl_kidKinds, Int.reduceBEq, hlen, hr, c1, c2]
    rfl
  · simp (config := {contextual := true, implicitDefEqProofs := false, maxSteps := 1000000}) only [
    ↓PR0, ↓PR1, ↓PR2, PO0, PO1, PO2, PO3, idxV_str, result, resOf, allSome, number, upd, List.map, Option.bind_some, Nat.reduceAdd, Nat.reduceSub, Nat.reduceLeDiff, Nat.reduceLT, Nat.reduceEqDiff, Nat.zero_add, Nat.add_zero, Nat.le_refl, 
    reduceIte, ne_eq, not_false_eq_true, and_self, true_and, and_true, reduceCtorEq, cond_true, cond_false, c_impl_kidKinds, Int.reduceBEq, hlen, hr, c1, c2]
    rfl
  · simp (config := {contextual := true, implicitDefEqProofs := false, maxSteps := 1000000}) only [
    ↓PR0, ↓PR1, ↓PR2, PO0, PO1, PO2, PO3, idxV_str, result, resOf, allSome, number, upd, List.map, Option.bind_some, Nat.reduceAdd, Nat.reduceSub, Nat.reduceLeDiff, Nat.reduceLT, Nat.reduceEqDiff, Nat.zero_add, Nat.add_zero, Nat.le_refl, 
    reduceIte, ne_eq, not_false_eq_true, and_self, true_and, and_true, reduceCtorEq, cond_true, cond_false, c_impl_kidKinds, Int.reduceBEq, hlen, hr, c1, c2]
    rfl
  · simp (config := {contextual := true, implicitDefEqProofs := false, maxSteps := 1000000}) only [
    ↓PR0, ↓PR1, ↓PR2, PO0, PO1, PO2, PO3, idxV_str, result, resOf, allSome, number, upd, List.map, Option.bind_some, Nat.reduceAdd, Nat.reduceSub, Nat.reduceLeDiff, Nat.reduceLT, Nat.reduceEqDiff, Nat.zero_add, Nat.add_zero, Nat.le_refl, 
    reduceIte, ne_eq, not_false_eq_true, and_self, true_and, and_true, reduceCtorEq, cond_true, cond_false, c_impl_kidKinds, Int.reduceBEq, hlen, hr, c1, c2]
    rfl
  · simp (config := {contextual := true, implicitDefEqProofs := false, maxSteps := 1000000}) only [
    ↓PR0, ↓PR1, ↓PR2, PO0, PO1, PO2, PO3, idxV_str, result, resOf, allSome, number, upd, List.map, Option.bind_some, Nat.reduceAdd, Nat.reduceSub, Nat.reduceLeDiff, Nat.reduceLT, Nat.reduceEqDiff, Nat.zero_add, Nat.add_zero, Nat.le_refl, 
    reduceIte, ne_eq, not_false_eq_true, and_self, true_and, and_true, reduceCtorEq, cond_true, cond_false, c_impl_kidKinds, Int.reduceBEq, hlen, hr, c1, c2]
    rfl
  · simp (config := {contextual := true, implicitDefEqProofs := false, maxSteps := 1000000}) only [
    ↓PR0, ↓PR1, ↓PR2, PO0, PO1, PO2, PO3, idxV_str, result, resOf, allSome, number, upd, List.map, Option.bind_some, Nat.reduceAdd, Nat.reduceSub, Nat.reduceLeDiff, Nat.reduceLT, Nat.reduceEqDiff, Nat.zero_add, Nat.add_zero, Nat.le_refl, 
    reduceIte, ne_eq, not_false_eq_true, and_self, true_and, and_true, reduceCtorEq, cond_true, cond_false, c_impl_kidKinds, Int.reduceBEq, hlen, hr, c1, c2]
    rfl
  · simp (config := {contextual := true, implicitDefEqProofs := false, maxSteps := 1000000}) only [
    ↓PR0, ↓PR1, ↓PR2, PO0, PO1, PO2, PO3, idxV_str, result, resOf, allSome, number, upd, List.map, Option.bind_some, Nat.reduceAdd, Nat.reduceSub, Nat.reduceLeDiff, Nat.reduceLT, Nat.reduceEqDiff, Nat.zero_add, Nat.add_zero, Nat.le_refl, 
    reduceIte, ne_eq, not_false_eq_true, and_self, true_and, and_true, reduceCtorEq, cond_true, cond_false, c_impl_kidKinds, Int.reduceBEq, hlen, hr, c1, c2]
    rfl
  · simp (config := {contextual := true, implicitDefEqProofs := false, maxSteps := 1000000}) only [
    ↓PR0, ↓PR1, ↓PR2, PO0, PO1, PO2, PO3, idxV_str, result, resOf, allSome, number, upd, List.map, Option.bind_some, Nat.reduceAdd, Nat.reduceSub, Nat.reduceLeDiff, Nat.reduceLT, Nat.reduceEqDiff, Nat.zero_add, Nat.add_zero, Nat.le_refl, 
    reduceIte, ne_eq, not_false_eq_true, and_self, true_and, and_true, reduceCtorEq, cond_true, cond_false, c_impl_kidKinds, Int.reduceBEq, hlen, hr, c1, c2]
    rfl
  · simp (config := {contextual := true, implicitDefEqProofs := false, maxSteps := 1000000}) only [
    ↓PR0, ↓PR1, ↓PR2, PO0, PO1, PO2, PO3, idxV_str, result, resOf, allSome, number, upd, List.map, Option.bind_some, Nat.reduceAdd, Nat.reduceSub, Nat.reduceLeDiff, Nat.reduceLT, Nat.reduceEqDiff, Nat.zero_add, Nat.add_zero, Nat.le_refl, 
    reduceIte, ne_eq, not_false_eq_true, and_self, true_and, and_true, reduceCtorEq, cond_true, cond_false, c_impl_kidKinds, Int.reduceBEq, hlen, hr, c1, c2]
    rfl
  · simp (config := {contextual := true, implicitDefEqProofs := false, maxSteps := 1000000}) only [
    ↓PR0, ↓PR1, ↓PR2, PO0, PO1, PO2, PO3, idxV_str, result, resOf, allSome, number, upd, List.map, Option.bind_some, Nat.reduceAdd, Nat.reduceSub, Nat.reduceLeDiff, Nat.reduceLT, Nat.reduceEqDiff, Nat.zero_add, Nat.add_zero, Nat.le_refl, 
    reduceIte, ne_eq, not_false_eq_true, and_self, true_and, and_true, reduceCtorEq, cond_true, cond_false, c_impl_kidKinds, Int.reduceBEq, hlen, hr, c1, c2]
    rfl
  · simp (config := {contextual := true, implicitDefEqProofs := false, maxSteps := 1000000}) only [
    ↓PR0, ↓PR1, ↓PR2, PO0, PO1, PO2, PO3, idxV_str, result, resOf, allSome, number, upd, List.map, Option.bind_some, Nat.reduceAdd, Nat.reduceSub, Nat.reduceLeDiff, Nat.reduceLT, Nat.reduceEqDiff, Nat.zero_add, Nat.add_zero, Nat.le_refl, 
    reduceIte, ne_eq, not_false_eq_true, and_self, true_and, and_true, reduceCtorEq, cond_true, cond_false, c_impl_kidKinds, Int.reduceBEq, hlen, hr, c1, c2]
    rfl
  · by_cases h2 : ks.length ≤ 2
    · have g1 : (if (2 : Int) > (ks.length : Int) then (2 : Int) else (ks.length : Int)) = 2 := by split <;> omega
      simp (config := {contextual := true, implicitDefEqProofs := false, maxSteps := 1000000}) only [
    ↓PR0, ↓PR1, ↓PR2, PO0, PO1, PO2, PO3, idxV_str, result, resOf, allSome, number, upd, List.map, Option.bind_some, Nat.reduceAdd, Nat.reduceSub, Nat.reduceLeDiff, Nat.reduceLT, Nat.reduceEqDiff, Nat.zero_add, Nat.add_zero, Nat.le_refl, 
    reduceIte, ne_eq, not_false_eq_true, and_self, true_and, and_true, reduceCtorEq, cond_true, cond_false, c_impl_kidKinds, Int.reduceBEq, hlen, hr, c1, c2, g1]
      simp [th_some, kindsI, oneK, twoK, h2]
    · have g1 : (if (2 : Int) > (ks.length : Int) then (2 : Int) else (ks.length : Int)) = (ks.length : Int) := by split <;> omega
      have g2 : (if (3 : Int) < (ks.length : Int) then (3 : Int) else (ks.length : Int)) = 3 := by split <;> omega
      simp (config := {contextual := true, implicitDefEqProofs := false, maxSteps := 1000000}) only [
    ↓PR0, ↓PR1, ↓PR2, PO0, PO1, PO2, PO3, idxV_str, result, resOf, allSome, number, upd, List.map, Option.bind_some, Nat.reduceAdd, Nat.reduceSub, Nat.reduceLeDiff, Nat.reduceLT, Nat.reduceEqDiff, Nat.zero_add, Nat.add_zero, Nat.le_refl, 
    reduceIte, ne_eq, not_false_eq_true, and_self, true_and, and_true, reduceCtorEq, cond_true, cond_false, c_impl_kidKinds, Int.reduceBEq, hlen, hr, c1, c2, g1, g2]
      simp [th_some, kindsI, oneK, twoK, h2]
  · simp (config := {contextual := true, implicitDefEqProofs := false, maxSteps := 1000000}) only [
    ↓PR0, ↓PR1, ↓PR2, PO0, PO1, PO2, PO3, idxV_str, result, resOf, allSome, number, upd, List.map, Option.bind_some, Nat.reduceAdd, Nat.reduceSub, Nat.reduceLeDiff, Nat.reduceLT, Nat.reduceEqDiff, Nat.zero_add, Nat.add_zero, Nat.le_refl, 
    reduceIte, ne_eq, not_false_eq_true, and_self, true_and, and_true, reduceCtorEq, cond_true, cond_false, c_impl_kidKinds, Int.reduceBEq, hlen, hr, c1, c2]
    rfl
  · simp (config := {contextual := true, implicitDefEqProofs := false, maxSteps := 1000000}) only [
    ↓PR0, ↓PR1, ↓PR2, PO0, PO1, PO2, PO3, idxV_str, result, resOf, allSome, number, upd, List.map, Option.bind_some, Nat.reduceAdd, Nat.reduceSub, Nat.reduceLeDiff, Nat.reduceLT, Nat.reduceEqDiff, Nat.zero_add, Nat.add_zero, Nat.le_refl, 
    reduceIte, ne_eq, not_false_eq_true, and_self, true_and, and_true, reduceCtorEq, cond_true, cond_false, c_impl_kidKinds, Int.reduceBEq, hlen, hr, c1, c2]
    rfl
  · simp (config := {contextual := true, implicitDefEqProofs := false, maxSteps := 1000000}) only [
    ↓PR0, ↓PR1, ↓PR2, PO0, PO1, PO2, PO3, idxV_str, result, resOf, allSome, number, upd, List.map, Option.bind_some, Nat.reduceAdd, Nat.reduceSub, Nat.reduceLeDiff, Nat.reduceLT, Nat.reduceEqDiff, Nat.zero_add, Nat.add_zero, Nat.le_refl, 
    reduceIte, ne_eq, not_false_eq_true, and_self, true_and, and_true, reduceCtorEq, cond_true, cond_false, c_impl_kidKinds, Int.reduceBEq, hlen, hr, c1, c2]
    rfl
  · simp (config := {contextual := true, implicitDefEqProofs := false, maxSteps := 1000000}) only [
    ↓PR0, ↓PR1, ↓PR2, PO0, PO1, PO2, PO3, idxV_str, result, resOf, allSome, number, upd, List.map, Option.bind_some, Nat.reduceAdd, Nat.reduceSub, Nat.reduceLeDiff, Nat.reduceLT, Nat.reduceEqDiff, Nat.zero_add, Nat.add_zero, Nat.le_refl, 
    reduceIte, ne_eq, not_false_eq_true, and_self, true_and, and_true, reduceCtorEq, cond_true, cond_false, c_impl_kidKinds, Int.reduceBEq, hlen, hr, c1, c2]
    rfl
  · simp (config := {contextual := true, implicitDefEqProofs := false, maxSteps := 1000000}) only [
    ↓PR0, ↓PR1, ↓PR2, PO0, PO1, PO2, PO3, idxV_str, result, resOf, allSome, number, upd, List.map, Option.bind_some, Nat.reduceAdd, Nat.reduceSub, Nat.reduceLeDiff, Nat.reduceLT, Nat.reduceEqDiff, Nat.zero_add, Nat.add_zero, Nat.le_refl, 
    reduceIte, ne_eq, not_false_eq_true, and_self, true_and, and_true, reduceCtorEq, cond_true, cond_false, c_impl_kidKinds, Int.reduceBEq, hlen, hr, c1, c2]
    rfl
  · simp (config := {contextual := true, implicitDefEqProofs := false, maxSteps := 1000000}) only [
    ↓PR0, ↓PR1, ↓PR2, PO0, PO1, PO2, PO3, idxV_str, result, resOf, allSome, number, upd, List.map, Option.bind_some, Nat.reduceAdd, Nat.reduceSub, Nat.reduceLeDiff, Nat.reduceLT, Nat.reduceEqDiff, Nat.zero_add, Nat.add_zero, Nat.le_refl, 
    reduceIte, ne_eq, not_false_eq_true, and_self, true_and, and_true, reduceCtorEq, cond_true, cond_false, c_impl_kidKinds, Int.reduceBEq, hlen, hr, c1, c2]
    rfl
  · simp (config := {contextual := true, implicitDefEqProofs := false, maxSteps := 1000000}) only [
    ↓PR0, ↓PR1, ↓PR2, PO0, PO1, PO2, PO3, idxV_str, result, resOf, allSome, number, upd, List.map, Option.bind_some, Nat.reduceAdd, Nat.reduceSub, Nat.reduceLeDiff, Nat.reduceLT, Nat.reduceEqDiff, Nat.zero_add, Nat.add_zero, Nat.le_refl, 
    reduceIte, ne_eq, not_false_eq_true, and_self, true_and, and_true, reduceCtorEq, cond_true, cond_false, c_impl_kidKinds, Int.reduceBEq, hlen, hr, c1, c2]
    rfl
  · obtain ⟨f1, f2, f3, f4, f5, f6, f7, f8, f9, f10, f11, f12, f13, f14, f15, f16, f17, f18, f19, f20⟩ := hk'.all
    simp (config := {contextual := true, implicitDefEqProofs := false, maxSteps := 1000000}) only [
    ↓PR0, ↓PR1, ↓PR2, PO0, PO1, PO2, PO3, idxV_str, result, resOf, allSome, number, upd, List.map, Option.bind_some, Nat.reduceAdd, Nat.reduceSub, Nat.reduceLeDiff, Nat.reduceLT, Nat.reduceEqDiff, Nat.zero_add, Nat.add_zero, Nat.le_refl, 
    reduceIte, ne_eq, not_false_eq_true, and_self, true_and, and_true, reduceCtorEq, cond_true, cond_false, c_impl_kidKinds, f1, f2, f3, f4, f5, f6, f7, f8, f9, f10, f11, f12, f13, f14, f15, f16, f17, f18, f19, f20, hlen, hr, c1, c2]
    simp only [beq_eq_false_iff_ne] at f10 f13 f14 f17 f18 f20
    simp [kindsI, oneK, twoK, f6, f7, f8, f9, f10, f11, f12, f13, f14, f15, f16, f17, f18, f19, f20]

theorem l03Kids_loop {R : Type} (an ak : AV) (k n : Int) (t : List UInt8) (kn : Nat) (v : Int) (hv : IntKind.i64.wrap (1 + IntKind.i64.wrap (2 * (if (k == 18) = true then 1 else 0))) = v) (hkn : kn ≤ 1048576) (hlen : lenV false ak = some (.int .i64 kn)) (q : Nat) : ∀ d i (σ : Store) (a : AV), i + d = kn → OwR q σ 1 (List.replicate i [int v]) a → ∃ a' σ', Fr (fun r => r = q) σ σ' ∧ OwR q σ' 1 (List.replicate kn [int v]) a' ∧ ∀ kk : Out → S → Option R,
    loopK (EE X) [1, 3, 4] l_spec_l03Kids_0 ([(1, .lp 1 0), (3, .v a), (4, .v (int i))], ⟨[(1, [int k, int n, .str t, an, ak])], σ⟩) kk =
      kk (.exit 1) ([(1, .lp 1 0), (3, .v a'), (4, .v (int kn)), (45, .v (.bool false))], ⟨[(1, [int k, int n, .str t, an, ak])], σ'⟩) := by
  have hbit : ∀ σ, EE X f_spec_l01Bit [.bool (k == 18)] σ = some (int (if (k == 18) = true then 1 else 0), σ) := by
    intro σ
    rw [EE, Ex_run C_spec_l01Bit rfl]
    simp (config := {contextual := true, implicitDefEqProofs := false, maxSteps := 1000000}) only [
    ↓PR0, ↓PR1, ↓PR2, PO0, PO1, PO2, PO3, idxV_str, result, resOf, allSome, number, upd, List.map, Option.bind_some, Nat.reduceAdd, Nat.reduceSub, Nat.reduceLeDiff, Nat.reduceLT, Nat.reduceEqDiff, Nat.zero_add, Nat.add_zero, Nat.le_refl, 
    reduceIte, ne_eq, not_false_eq_true, and_self, true_and, and_true, reduceCtorEq, cond_true, cond_false, c_spec_l01Bit]
    cases k == 18 <;> rfl
  intro d
  induction d with
  | zero =>
    intro i σ a hi ha
    have e : i = kn := by omega
    subst e
    refine ⟨a, σ, Fr.refl _ _, ha, fun kk => ?_⟩
    rw [loopK_step l_spec_l03Kids_0.eq_1]
    simp (config := {contextual := true, implicitDefEqProofs := false, maxSteps := 1000000}) only [
    ↓PR0, ↓PR1, ↓PR2, PO0, PO1, PO2, PO3, idxV_str, result, resOf, allSome, number, upd, List.map, Option.bind_some, Nat.reduceAdd, Nat.reduceSub, Nat.reduceLeDiff, Nat.reduceLT, Nat.reduceEqDiff, Nat.zero_add, Nat.add_zero, Nat.le_refl, 
    reduceIte, ne_eq, not_false_eq_true, and_self, true_and, and_true, reduceCtorEq, cond_true, cond_false, hlen, Int.lt_irrefl, decide_false]
  | succ d ih =>
    intro i σ a hi ha
    have hlt' : (i : Int) < (kn : Int) := by omega
    have hw : IntKind.i64.wrap ((i : Int) + 1) = ((i + 1 : Nat) : Int) := wrap64 (by omega) (by omega)
    obtain ⟨a1, σ1, g1, g2, g3⟩ := ha.app 8 [[int v]] (by simp only [List.length_replicate, List.length_cons, List.length_nil]; omega)
    have g2' : OwR q σ1 1 (List.replicate (i + 1) [int v]) a1 := by rw [List.replicate_succ']; exact g2
    obtain ⟨a', σ', f1, f2, f3⟩ := ih (i + 1) σ1 a1 (by omega) g2'
    have hel : ∀ M, elsOf M 1 (.ls [[int v]]) = some [[int v]] := fun _ => rfl
    refine ⟨a', σ', g3.step f1, f2, fun kk => ?_⟩
    rw [← f3 kk, loopK_step l_spec_l03Kids_0.eq_1]
    simp (config := {contextual := true, implicitDefEqProofs := false, maxSteps := 1000000}) only [
    ↓PR0, ↓PR1, ↓PR2, PO0, PO1, PO2, PO3, idxV_str, result, resOf, allSome, number, upd, List.map, Option.bind_some, Nat.reduceAdd, Nat.reduceSub, Nat.reduceLeDiff, Nat.reduceLT, Nat.reduceEqDiff, Nat.zero_add, Nat.add_zero, Nat.le_refl, 
    reduceIte, ne_eq, not_false_eq_true, and_self, true_and, and_true, reduceCtorEq, cond_true, cond_false, hlen, hlt', decide_true, hbit, hv, List.replicate_succ, List.replicate_zero, List.set_cons_zero, hel, g1, hw]
theorem litI (σ : Store) (l : List Int) (h : ∀ t ∈ l, I64 t) (n : Nat) (hn : n = l.length) : RS RI 1 (σ ++ [⟨l.map (fun t => [int t]), 1, 0, .own⟩]) l (.sl σ.length 0 0 n) := by
  subst hn
  refine ⟨_, by simpa using SlAt.new σ (l.map (fun t => [int t])) 1, All2.map (fun t ht => ⟨rfl, h t ht⟩)⟩
set_option maxHeartbeats 4000000 in
theorem l03Kids_eq (σ : Store) (m : NodeM) (cs : List AV) (h : RNode σ m cs) (hs : m.size ≤ 1048576) : ∃ a σ', EE X f_spec_l03Kids [.agg cs] σ = some (a, σ') ∧ Pre σ σ' ∧ RSO (fun _ _ => RI) 1 σ.length σ'.length σ' (sortsM m) a := by
  obtain ⟨k, n, t, ns, ks⟩ := m
  obtain ⟨an, ak, rfl, hn, hk, ok⟩ := h
  simp only at hn hk
  have hlen := hk.len
  have hkl : ks.length ≤ 1048576 := by simp only [NodeM.size] at hs; omega
  have c1 := hn.cellsOf
  have c2 := hk.cellsOf
  show ∃ a σ', EE X f_spec_l03Kids [.agg [int k, int n, .str t, an, ak]] σ = some (a, σ') ∧ Pre σ σ' ∧ RSO (fun _ _ => RI) 1 σ.length σ'.length σ' (sortsM ⟨k, n, t, ns, ks⟩) a
  have lit : ∀ l : List Int, (∀ x ∈ l, x = 1 ∨ x = 2) → RSO (fun _ _ => RI) 1 σ.length (σ ++ [(⟨l.map (fun t => [int t]), 1, 0, .own⟩ : Row)]).length (σ ++ [⟨l.map (fun t => [int t]), 1, 0, .own⟩]) l (.sl σ.length 0 0 l.length) := fun l hl => ⟨litI σ l (fun t ht => by rcases hl t ht with rfl | rfl <;> (unfold I64; omega)) _ rfl, by
    have := KA.mid σ [] (l.map (fun t => [int t])) 1 0 l.length
    exact this.wide (Nat.le_refl _) (by simp)⟩
  have l0 := lit [] (by simp)
  have l1 := lit [1] (by simp)
  have l11 := lit [1, 1] (by simp)
  have l12 := lit [1, 2] (by simp)
  have l122 := lit [1, 2, 2] (by simp)
  have l22 := lit [2, 2] (by simp)
  have l2 := lit [2] (by simp)
  have hrep : List.replicate 0 [int 1] = [] := rfl
  have lp := fun (v : Int) hv => l03Kids_loop (X := X) (R := AV × Store) an ak k n t ks.length v hv hkl hlen σ.length ks.length 0 (σ ++ [⟨[], 1, 0, .own⟩]) (.sl σ.length 0 0 0) (by omega) (by simpa using OwR.new σ [] 1)
  have fin : ∀ (v : Int) (a' : AV) (σ' : Store), I64 v → OwR σ.length σ' 1 (List.replicate ks.length [int v]) a' → RSO (fun _ _ => RI) 1 σ.length σ'.length σ' (List.replicate ks.length v) a' := by
    intro v a' σ' hv ho
    refine ⟨ho.rs ?_, ho.ka (Nat.le_refl _) ho.lt⟩
    have : List.replicate ks.length [int v] = (List.replicate ks.length v).map (fun x => [int x]) := by simp
    rw [this]
    exact All2.map (fun x hx => ⟨rfl, by rw [List.eq_of_mem_replicate hx]; exact hv⟩)
  have pre2 : ∀ σ', Fr (fun r => r = σ.length) (σ ++ [⟨[], 1, 0, .own⟩]) σ' → Pre σ σ' := fun σ' hf => (Pre.app σ _).trans hf (fun r h1 h2 => by omega)
  have z0 : ∀ R' : RV, R' = R' := fun _ => rfl
  rcases kindCases k with rfl | rfl | rfl | rfl | rfl | rfl | rfl | rfl | rfl | rfl | rfl | rfl | rfl | rfl | rfl | rfl | rfl | rfl | rfl | rfl | hk'
  · refine ⟨_, _, ?_, Pre.app _ _, l0⟩
    rw [EE, Ex_run C_spec_l03Kids rfl]
    simp (config := {contextual := true, implicitDefEqProofs := false, maxSteps := 1000000}) only [
    ↓PR0, ↓PR1, ↓PR2, PO0, PO1, PO2, PO3, idxV_str, result, resOf, allSome, number, upd, List.map, Option.bind_some, Nat.reduceAdd, Nat.reduceSub, Nat.reduceLeDiff, Nat.reduceLT, Nat.reduceEqDiff, Nat.zero_add, Nat.add_zero, Nat.le_refl, 
    reduceIte, ne_eq, not_false_eq_true, and_self, true_and, and_true, reduceCtorEq, cond_true, cond_false, c_spec_l03Kids, Int.reduceBEq, hlen, c1, c2, List.replicate_succ, List.replicate_zero, List.set_cons_zero, List.set_cons_succ]
  · refine ⟨_, _, ?_, Pre.app _ _, l0⟩
    rw [EE, Ex_run C_spec_l03Kids rfl]
    simp (config := {contextual := true, implicitDefEqProofs := false, maxSteps := 1000000}) only [
    ↓PR0, ↓PR1, ↓PR2, PO0, PO1, PO2, PO3, idxV_str, result, resOf, allSome, number, upd, List.map, Option.bind_some, Nat.reduceAdd, Nat.reduceSub, Nat.reduceLeDiff, Nat.reduceLT, Nat.reduceEqDiff, Nat.zero_add, Nat.add_zero, Nat.le_refl, 
    reduceIte, ne_eq, not_false_eq_true, and_self, true_and, and_true, reduceCtorEq, cond_true, cond_false, c_spec_l03Kids, Int.reduceBEq, hlen, c1, c2, List.replicate_succ, List.replicate_zero, List.set_cons_zero, List.set_cons_succ]
  · refine ⟨_, _, ?_, Pre.app _ _, l0⟩
    rw [EE, Ex_run C_spec_l03Kids rfl]
    simp (config := {contextual := true, implicitDefEqProofs := false, maxSteps := 1000000}) only [
    ↓PR0, ↓PR1, ↓PR2, PO0, PO1, PO2, PO3, idxV_str, result, resOf, allSome, number, upd, List.map, Option.bind_some, Nat.reduceAdd, Nat.reduceSub, Nat.reduceLeDiff, Nat.reduceLT, Nat.reduceEqDiff, Nat.zero_add, Nat.add_zero, Nat.le_refl, 
    reduceIte, ne_eq, not_false_eq_true, and_self, true_and, and_true, reduceCtorEq, cond_true, cond_false, c_spec_l03Kids, Int.reduceBEq, hlen, c1, c2, List.replicate_succ, List.replicate_zero, List.set_cons_zero, List.set_cons_succ]
  · refine ⟨_, _, ?_, Pre.app _ _, l0⟩
    rw [EE, Ex_run C_spec_l03Kids rfl]
    simp (config := {contextual := true, implicitDefEqProofs := false, maxSteps := 1000000}) only [
    ↓PR0, ↓PR1, ↓PR2, PO0, PO1, PO2, PO3, idxV_str, result, resOf, allSome, number, upd, List.map, Option.bind_some, Nat.reduceAdd, Nat.reduceSub, Nat.reduceLeDiff, Nat.reduceLT, Nat.reduceEqDiff, Nat.zero_add, Nat.add_zero, Nat.le_refl, 
    reduceIte, ne_eq, not_false_eq_true, and_self, true_and, and_true, reduceCtorEq, cond_true, cond_false, c_spec_l03Kids, Int.reduceBEq, hlen, c1, c2, List.replicate_succ, List.replicate_zero, List.set_cons_zero, List.set_cons_succ]
  · refine ⟨_, _, ?_, Pre.app _ _, l0⟩
    rw [EE, Ex_run C_spec_l03Kids rfl]
    simp (config := {contextual := true, implicitDefEqProofs := false, maxSteps := 1000000}) only [
    ↓PR0, ↓PR1, ↓PR2, PO0, PO1, PO2, PO3, idxV_str, result, resOf, allSome, number, upd, List.map, Option.bind_some, Nat.reduceAdd, Nat.reduceSub, Nat.reduceLeDiff, Nat.reduceLT, Nat.reduceEqDiff, Nat.zero_add, Nat.add_zero, Nat.le_refl, 
    reduceIte, ne_eq, not_false_eq_true, and_self, true_and, and_true, reduceCtorEq, cond_true, cond_false, c_spec_l03Kids, Int.reduceBEq, hlen, c1, c2, List.replicate_succ, List.replicate_zero, List.set_cons_zero, List.set_cons_succ]
  · refine ⟨_, _, ?_, Pre.app _ _, l1⟩
    rw [EE, Ex_run C_spec_l03Kids rfl]
    simp (config := {contextual := true, implicitDefEqProofs := false, maxSteps := 1000000}) only [
    ↓PR0, ↓PR1, ↓PR2, PO0, PO1, PO2, PO3, idxV_str, result, resOf, allSome, number, upd, List.map, Option.bind_some, Nat.reduceAdd, Nat.reduceSub, Nat.reduceLeDiff, Nat.reduceLT, Nat.reduceEqDiff, Nat.zero_add, Nat.add_zero, Nat.le_refl, 
    reduceIte, ne_eq, not_false_eq_true, and_self, true_and, and_true, reduceCtorEq, cond_true, cond_false, c_spec_l03Kids, Int.reduceBEq, hlen, c1, c2, List.replicate_succ, List.replicate_zero, List.set_cons_zero, List.set_cons_succ]
  · refine ⟨_, _, ?_, Pre.app _ _, l11⟩
    rw [EE, Ex_run C_spec_l03Kids rfl]
    simp (config := {contextual := true, implicitDefEqProofs := false, maxSteps := 1000000}) only [
    ↓PR0, ↓PR1, ↓PR2, PO0, PO1, PO2, PO3, idxV_str, result, resOf, allSome, number, upd, List.map, Option.bind_some, Nat.reduceAdd, Nat.reduceSub, Nat.reduceLeDiff, Nat.reduceLT, Nat.reduceEqDiff, Nat.zero_add, Nat.add_zero, Nat.le_refl, 
    reduceIte, ne_eq, not_false_eq_true, and_self, true_and, and_true, reduceCtorEq, cond_true, cond_false, c_spec_l03Kids, Int.reduceBEq, hlen, c1, c2, List.replicate_succ, List.replicate_zero, List.set_cons_zero, List.set_cons_succ]
  · refine ⟨_, _, ?_, Pre.app _ _, l11⟩
    rw [EE, Ex_run C_spec_l03Kids rfl]
    simp (config := {contextual := true, implicitDefEqProofs := false, maxSteps := 1000000}) only [
    ↓PR0, ↓PR1, ↓PR2, PO0, PO1, PO2, PO3, idxV_str, result, resOf, allSome, number, upd, List.map, Option.bind_some, Nat.reduceAdd, Nat.reduceSub, Nat.reduceLeDiff, Nat.reduceLT, Nat.reduceEqDiff, Nat.zero_add, Nat.add_zero, Nat.le_refl, 
    reduceIte, ne_eq, not_false_eq_true, and_self, true_and, and_true, reduceCtorEq, cond_true, cond_false, c_spec_l03Kids, Int.reduceBEq, hlen, c1, c2, List.replicate_succ, List.replicate_zero, List.set_cons_zero, List.set_cons_succ]
  · refine ⟨_, _, ?_, Pre.app _ _, l11⟩
    rw [EE, Ex_run C_spec_l03Kids rfl]
    simp (config := {contextual := true, implicitDefEqProofs := false, maxSteps := 1000000}) only [
    ↓PR0, ↓PR1, ↓PR2, PO0, PO1, PO2, PO3, idxV_str, result, resOf, allSome, number, upd, List.map, Option.bind_some, Nat.reduceAdd, Nat.reduceSub, Nat.reduceLeDiff, Nat.reduceLT, Nat.reduceEqDiff, Nat.zero_add, Nat.add_zero, Nat.le_refl, 
    reduceIte, ne_eq, not_false_eq_true, and_self, true_and, and_true, reduceCtorEq, cond_true, cond_false, c_spec_l03Kids, Int.reduceBEq, hlen, c1, c2, List.replicate_succ, List.replicate_zero, List.set_cons_zero, List.set_cons_succ]
  · obtain ⟨a', σ', f1, f2, f3⟩ := lp 1 (by decide)
    simp only [Int.cast_ofNat_Int] at f3
    refine ⟨a', σ', ?_, pre2 σ' f1, fin 1 a' σ' (by unfold I64; omega) f2⟩
    rw [EE, Ex_run C_spec_l03Kids rfl]
    simp (config := {contextual := true, implicitDefEqProofs := false, maxSteps := 1000000}) only [
    ↓PR0, ↓PR1, ↓PR2, PO0, PO1, PO2, PO3, idxV_str, result, resOf, allSome, number, upd, List.map, Option.bind_some, Nat.reduceAdd, Nat.reduceSub, Nat.reduceLeDiff, Nat.reduceLT, Nat.reduceEqDiff, Nat.zero_add, Nat.add_zero, Nat.le_refl, 
    reduceIte, ne_eq, not_false_eq_true, and_self, true_and, and_true, reduceCtorEq, cond_true, cond_false, c_spec_l03Kids, Int.reduceBEq, hlen, c1, c2, f3, List.replicate_succ, List.replicate_zero, List.set_cons_zero, List.set_cons_succ]
  · refine ⟨_, _, ?_, Pre.app _ _, l1⟩
    rw [EE, Ex_run C_spec_l03Kids rfl]
    simp (config := {contextual := true, implicitDefEqProofs := false, maxSteps := 1000000}) only [
    ↓PR0, ↓PR1, ↓PR2, PO0, PO1, PO2, PO3, idxV_str, result, resOf, allSome, number, upd, List.map, Option.bind_some, Nat.reduceAdd, Nat.reduceSub, Nat.reduceLeDiff, Nat.reduceLT, Nat.reduceEqDiff, Nat.zero_add, Nat.add_zero, Nat.le_refl, 
    reduceIte, ne_eq, not_false_eq_true, and_self, true_and, and_true, reduceCtorEq, cond_true, cond_false, c_spec_l03Kids, Int.reduceBEq, hlen, c1, c2, List.replicate_succ, List.replicate_zero, List.set_cons_zero, List.set_cons_succ]
  · refine ⟨_, _, ?_, Pre.app _ _, l1⟩
    rw [EE, Ex_run C_spec_l03Kids rfl]
    simp (config := {contextual := true, implicitDefEqProofs := false, maxSteps := 1000000}) only [
    ↓PR0, ↓PR1, ↓PR2, PO0, PO1, PO2, PO3, idxV_str, result, resOf, allSome, number, upd, List.map, Option.bind_some, Nat.reduceAdd, Nat.reduceSub, Nat.reduceLeDiff, Nat.reduceLT, Nat.reduceEqDiff, Nat.zero_add, Nat.add_zero, Nat.le_refl, 
    reduceIte, ne_eq, not_false_eq_true, and_self, true_and, and_true, reduceCtorEq, cond_true, cond_false, c_spec_l03Kids, Int.reduceBEq, hlen, c1, c2, List.replicate_succ, List.replicate_zero, List.set_cons_zero, List.set_cons_succ]
  · by_cases h3 : ks.length = 3
    · have h3' : ((ks.length : Int) == 3) = true := by simp [h3]
      have e : sortsM ⟨13, n, t, ns, ks⟩ = [1, 2, 2] := by simp [sortsM, oneK, twoK, h3]
      rw [e]
      refine ⟨_, _, ?_, Pre.app _ _, l122⟩
      rw [EE, Ex_run C_spec_l03Kids rfl]
      simp (config := {contextual := true, implicitDefEqProofs := false, maxSteps := 1000000}) only [
    ↓PR0, ↓PR1, ↓PR2, PO0, PO1, PO2, PO3, idxV_str, result, resOf, allSome, number, upd, List.map, Option.bind_some, Nat.reduceAdd, Nat.reduceSub, Nat.reduceLeDiff, Nat.reduceLT, Nat.reduceEqDiff, Nat.zero_add, Nat.add_zero, Nat.le_refl, 
    reduceIte, ne_eq, not_false_eq_true, and_self, true_and, and_true, reduceCtorEq, cond_true, cond_false, c_spec_l03Kids, Int.reduceBEq, hlen, h3', c1, c2, List.replicate_succ, List.replicate_zero, List.set_cons_zero, List.set_cons_succ]
    · have h3' : ((ks.length : Int) == 3) = false := by simp; omega
      have e : sortsM ⟨13, n, t, ns, ks⟩ = [1, 2] := by simp [sortsM, oneK, twoK, h3]
      rw [e]
      refine ⟨_, _, ?_, Pre.app _ _, l12⟩
      rw [EE, Ex_run C_spec_l03Kids rfl]
      simp (config := {contextual := true, implicitDefEqProofs := false, maxSteps := 1000000}) only [
    ↓PR0, ↓PR1, ↓PR2, PO0, PO1, PO2, PO3, idxV_str, result, resOf, allSome, number, upd, List.map, Option.bind_some, Nat.reduceAdd, Nat.reduceSub, Nat.reduceLeDiff, Nat.reduceLT, Nat.reduceEqDiff, Nat.zero_add, Nat.add_zero, Nat.le_refl, 
    reduceIte, ne_eq, not_false_eq_true, and_self, true_and, and_true, reduceCtorEq, cond_true, cond_false, c_spec_l03Kids, Int.reduceBEq, hlen, h3', c1, c2, List.replicate_succ, List.replicate_zero, List.set_cons_zero, List.set_cons_succ]
  · refine ⟨_, _, ?_, Pre.app _ _, l12⟩
    rw [EE, Ex_run C_spec_l03Kids rfl]
    simp (config := {contextual := true, implicitDefEqProofs := false, maxSteps := 1000000}) only [
    ↓PR0, ↓PR1, ↓PR2, PO0, PO1, PO2, PO3, idxV_str, result, resOf, allSome, number, upd, List.map, Option.bind_some, Nat.reduceAdd, Nat.reduceSub, Nat.reduceLeDiff, Nat.reduceLT, Nat.reduceEqDiff, Nat.zero_add, Nat.add_zero, Nat.le_refl, 
    reduceIte, ne_eq, not_false_eq_true, and_self, true_and, and_true, reduceCtorEq, cond_true, cond_false, c_spec_l03Kids, Int.reduceBEq, hlen, c1, c2, List.replicate_succ, List.replicate_zero, List.set_cons_zero, List.set_cons_succ]
  · refine ⟨_, _, ?_, Pre.app _ _, l1⟩
    rw [EE, Ex_run C_spec_l03Kids rfl]
    simp (config := {contextual := true, implicitDefEqProofs := false, maxSteps := 1000000}) only [
    ↓PR0, ↓PR1, ↓PR2, PO0, PO1, PO2, PO3, idxV_str, result, resOf, allSome, number, upd, List.map, Option.bind_some, Nat.reduceAdd, Nat.reduceSub, Nat.reduceLeDiff, Nat.reduceLT, Nat.reduceEqDiff, Nat.zero_add, Nat.add_zero, Nat.le_refl, 
    reduceIte, ne_eq, not_false_eq_true, and_self, true_and, and_true, reduceCtorEq, cond_true, cond_false, c_spec_l03Kids, Int.reduceBEq, hlen, c1, c2, List.replicate_succ, List.replicate_zero, List.set_cons_zero, List.set_cons_succ]
  · refine ⟨_, _, ?_, Pre.app _ _, l1⟩
    rw [EE, Ex_run C_spec_l03Kids rfl]
    simp (config := {contextual := true, implicitDefEqProofs := false, maxSteps := 1000000}) only [
    ↓PR0, ↓PR1, ↓PR2, PO0, PO1, PO2, PO3, idxV_str, result, resOf, allSome, number, upd, List.map, Option.bind_some, Nat.reduceAdd, Nat.reduceSub, Nat.reduceLeDiff, Nat.reduceLT, Nat.reduceEqDiff, Nat.zero_add, Nat.add_zero, Nat.le_refl, 
    reduceIte, ne_eq, not_false_eq_true, and_self, true_and, and_true, reduceCtorEq, cond_true, cond_false, c_spec_l03Kids, Int.reduceBEq, hlen, c1, c2, List.replicate_succ, List.replicate_zero, List.set_cons_zero, List.set_cons_succ]
  · refine ⟨_, _, ?_, Pre.app _ _, l22⟩
    rw [EE, Ex_run C_spec_l03Kids rfl]
    simp (config := {contextual := true, implicitDefEqProofs := false, maxSteps := 1000000}) only [
    ↓PR0, ↓PR1, ↓PR2, PO0, PO1, PO2, PO3, idxV_str, result, resOf, allSome, number, upd, List.map, Option.bind_some, Nat.reduceAdd, Nat.reduceSub, Nat.reduceLeDiff, Nat.reduceLT, Nat.reduceEqDiff, Nat.zero_add, Nat.add_zero, Nat.le_refl, 
    reduceIte, ne_eq, not_false_eq_true, and_self, true_and, and_true, reduceCtorEq, cond_true, cond_false, c_spec_l03Kids, Int.reduceBEq, hlen, c1, c2, List.replicate_succ, List.replicate_zero, List.set_cons_zero, List.set_cons_succ]
  · obtain ⟨a', σ', f1, f2, f3⟩ := lp 3 (by decide)
    simp only [Int.cast_ofNat_Int] at f3
    refine ⟨a', σ', ?_, pre2 σ' f1, fin 3 a' σ' (by unfold I64; omega) f2⟩
    rw [EE, Ex_run C_spec_l03Kids rfl]
    simp (config := {contextual := true, implicitDefEqProofs := false, maxSteps := 1000000}) only [
    ↓PR0, ↓PR1, ↓PR2, PO0, PO1, PO2, PO3, idxV_str, result, resOf, allSome, number, upd, List.map, Option.bind_some, Nat.reduceAdd, Nat.reduceSub, Nat.reduceLeDiff, Nat.reduceLT, Nat.reduceEqDiff, Nat.zero_add, Nat.add_zero, Nat.le_refl, 
    reduceIte, ne_eq, not_false_eq_true, and_self, true_and, and_true, reduceCtorEq, cond_true, cond_false, c_spec_l03Kids, Int.reduceBEq, hlen, c1, c2, f3, List.replicate_succ, List.replicate_zero, List.set_cons_zero, List.set_cons_succ]
  · refine ⟨_, _, ?_, Pre.app _ _, l1⟩
    rw [EE, Ex_run C_spec_l03Kids rfl]
    simp (config := {contextual := true, implicitDefEqProofs := false, maxSteps := 1000000}) only [
    ↓PR0, ↓PR1, ↓PR2, PO0, PO1, PO2, PO3, idxV_str, result, resOf, allSome, number, upd, List.map, Option.bind_some, Nat.reduceAdd, Nat.reduceSub, Nat.reduceLeDiff, Nat.reduceLT, Nat.reduceEqDiff, Nat.zero_add, Nat.add_zero, Nat.le_refl, 
    reduceIte, ne_eq, not_false_eq_true, and_self, true_and, and_true, reduceCtorEq, cond_true, cond_false, c_spec_l03Kids, Int.reduceBEq, hlen, c1, c2, List.replicate_succ, List.replicate_zero, List.set_cons_zero, List.set_cons_succ]
  · refine ⟨_, _, ?_, Pre.app _ _, l2⟩
    rw [EE, Ex_run C_spec_l03Kids rfl]
    simp (config := {contextual := true, implicitDefEqProofs := false, maxSteps := 1000000}) only [
    ↓PR0, ↓PR1, ↓PR2, PO0, PO1, PO2, PO3, idxV_str, result, resOf, allSome, number, upd, List.map, Option.bind_some, Nat.reduceAdd, Nat.reduceSub, Nat.reduceLeDiff, Nat.reduceLT, Nat.reduceEqDiff, Nat.zero_add, Nat.add_zero, Nat.le_refl, 
    reduceIte, ne_eq, not_false_eq_true, and_self, true_and, and_true, reduceCtorEq, cond_true, cond_false, c_spec_l03Kids, Int.reduceBEq, hlen, c1, c2, List.replicate_succ, List.replicate_zero, List.set_cons_zero, List.set_cons_succ]
  · obtain ⟨f1, f2, f3, f4, f5, f6, f7, f8, f9, f10, f11, f12, f13, f14, f15, f16, f17, f18, f19, f20⟩ := hk'.all
    have e : sortsM ⟨k, n, t, ns, ks⟩ = [] := by
      have g10 := f10; have g13 := f13; have g14 := f14; have g17 := f17; have g18 := f18; have g20 := f20
      simp only [beq_eq_false_iff_ne] at g10 g13 g14 g17 g18 g20
      simp [sortsM, oneK, twoK, f6, f7, f8, f9, f11, f12, f15, f16, f19, g10, g13, g14, g17, g18, g20]
    rw [e]
    refine ⟨_, _, ?_, Pre.app _ _, l0⟩
    rw [EE, Ex_run C_spec_l03Kids rfl]
    simp (config := {contextual := true, implicitDefEqProofs := false, maxSteps := 1000000}) only [
    ↓PR0, ↓PR1, ↓PR2, PO0, PO1, PO2, PO3, idxV_str, result, resOf, allSome, number, upd, List.map, Option.bind_some, Nat.reduceAdd, Nat.reduceSub, Nat.reduceLeDiff, Nat.reduceLT, Nat.reduceEqDiff, Nat.zero_add, Nat.add_zero, Nat.le_refl, 
    reduceIte, ne_eq, not_false_eq_true, and_self, true_and, and_true, reduceCtorEq, cond_true, cond_false, c_spec_l03Kids, f1, f2, f3, f4, f5, f6, f7, f8, f9, f10, f11, f12, f13, f14, f15, f16, f17, f18, f19, f20, hlen, c1, c2, 
    List.replicate_succ, List.replicate_zero, List.set_cons_zero, List.set_cons_succ]
theorem RSO.dep1 {α : Type} {emb : α → AV} {ok : α → Prop} {lo hi : Nat} {σ : Store} {l : List α} {a : AV} (h : RSO (fun _ _ => RP emb ok) 1 lo hi σ l a) : Dep (fun r => lo ≤ r ∧ r < hi) σ (fun st => RS (RP emb ok) 1 st l a) := by
  obtain ⟨⟨els, h1, h2⟩, h3⟩ := h
  exact (h1.dep h3).imp (fun st h => ⟨els, h.1, h2⟩)
end Go.X
