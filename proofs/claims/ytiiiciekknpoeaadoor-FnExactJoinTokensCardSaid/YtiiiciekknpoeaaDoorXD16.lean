/- Tokens joined: the law of JoinTokens. -/
import Derived.Test.YtiiiciekknpoeaaDoorXD15
set_option linter.unusedVariables false
set_option linter.unusedSimpArgs false
set_option maxRecDepth 20000
namespace Go.X
open Go Go.Lib
variable {X : Call}

def joinM (l : List TokM) : List UInt8 × Int := if 4096 < l.length then ([], 2) else if 300 < l.length then ([], 6) else if l.all tB = true then (Lib.join (l.map tW) [32], 0) else ([], 1)
theorem lens_le : ∀ (l : List (List UInt8)) (B : Nat), (∀ t ∈ l, t.length ≤ B) → (joinTail [32] l).length ≤ l.length * (B + 1)
  | [], B, _ => by simp [joinTail]
  | t :: l, B, h => by
    have ih := lens_le l B (fun x hx => h x (List.mem_cons_of_mem _ hx))
    have h1 := h t (by simp)
    simp only [joinTail, List.map_cons, List.flatten_cons, List.length_append, List.length_cons, List.length_nil] at ih ⊢
    rw [Nat.succ_mul]
    omega
theorem join_le (l : List (List UInt8)) (hl : l.length ≤ 300) (h : ∀ t ∈ l, t.length ≤ 2999990) : (Lib.join l [32]).length ≤ 140737488355328 := by
  cases l with
  | nil => simp [Lib.join, List.intercalate]
  | cons t l =>
    rw [join_cons, List.length_append]
    have h1 := h t (by simp)
    have h2 := lens_le l 2999990 (fun x hx => h x (List.mem_cons_of_mem _ hx))
    simp only [List.length_cons] at hl
    have h3 : l.length * (2999990 + 1) ≤ 300 * (2999990 + 1) := Nat.mul_le_mul_right _ (by omega)
    have h4 : 300 * (2999990 + 1) = 899997300 := rfl
    omega
theorem tws_len {l : List TokM} (hsz : ∀ s ∈ l, s.text.length ≤ 1048576) : ∀ t ∈ l.map tW, t.length ≤ 2999990 := by
  intro t ht
  obtain ⟨m, hm, rfl⟩ := List.mem_map.1 ht
  exact tW_len (hsz m hm)
theorem cX_rs {q : Nat} {σ : Store} {l : List (List UInt8)} {a : AV} (h : OwR q σ 1 (cX l) a) (hl : ∀ t ∈ l, t.length ≤ 2999990) : RS RT 1 σ l a := h.rs (All2.map (fun t ht => ⟨rfl, by have := hl t ht; unfold LenOk; omega⟩))
theorem specJoinTokens_eq (σ : Store) (l : List TokM) (al : AV) (ha : RS RTok 3 σ l al) (hl : l.length ≤ 1048576) (hsz : ∀ s ∈ l, s.text.length ≤ 1048576) : ∃ σ', EE X f_spec_JoinTokens [al] σ = some (.tup [.str (joinM l).1, int (joinM l).2], σ') ∧ Pre σ σ' := by
  obtain ⟨hs, hok⟩ := rtok_cK ha
  have hlen := ha.len
  by_cases h1 : 4096 < l.length
  · have h1' : (4096 : Int) < (l.length : Int) := by omega
    have e : joinM l = ([], 2) := by simp only [joinM, h1, if_true]
    refine ⟨σ, ?_, Fr.refl _ _⟩
    rw [e, EE, Ex_run C_spec_JoinTokens rfl]
    simp (config := {contextual := true, implicitDefEqProofs := false, maxSteps := 1000000}) only [
    ↓PR0, ↓PR1, ↓PR2, PO0, PO1, PO2, PO3, idxV_str, result, resOf, allSome, number, upd, List.map, Option.bind_some, Nat.reduceAdd, Nat.reduceSub, Nat.reduceLeDiff, Nat.reduceLT, Nat.reduceEqDiff, Nat.zero_add, Nat.add_zero, Nat.le_refl, 
    reduceIte, ne_eq, not_false_eq_true, and_self, true_and, and_true, reduceCtorEq, cond_true, cond_false, c_spec_JoinTokens, ha.cellsOf, hlen, h1', decide_true]
  · have h1' : ¬ (4096 : Int) < (l.length : Int) := by omega
    by_cases h2 : 300 < l.length
    · have h2' : (300 : Int) < (l.length : Int) := by omega
      have e : joinM l = ([], 6) := by simp only [joinM, h1, h2, if_true, if_false]
      refine ⟨σ, ?_, Fr.refl _ _⟩
      rw [e, EE, Ex_run C_spec_JoinTokens rfl]
      simp (config := {contextual := true, implicitDefEqProofs := false, maxSteps := 1000000}) only [
    ↓PR0, ↓PR1, ↓PR2, PO0, PO1, PO2, PO3, idxV_str, result, resOf, allSome, number, upd, List.map, Option.bind_some, Nat.reduceAdd, Nat.reduceSub, Nat.reduceLeDiff, Nat.reduceLT, Nat.reduceEqDiff, Nat.zero_add, Nat.add_zero, Nat.le_refl, 
    reduceIte, ne_eq, not_false_eq_true, and_self, true_and, and_true, reduceCtorEq, cond_true, cond_false, c_spec_JoinTokens, ha.cellsOf, hlen, h1', h2', decide_true, decide_false]
    · have h2' : ¬ (300 : Int) < (l.length : Int) := by omega
      have hw : OwR σ.length (σ ++ [⟨[], 1, 0, .own⟩]) 1 (cX []) (.sl σ.length 0 0 0) := OwR.new σ (cX []) 1
      obtain ⟨σ', f1, f2⟩ := specJoin_loop (X := X) (R := AV × Store) l al (by omega) (slAt_off hs) hok hsz l.length 0 [] _ _ (by omega) rfl (hs.append _) hw
      have hpre : Pre σ σ' := (Pre.app σ [(⟨[], 1, 0, .own⟩ : Row)]).trans f1 (fun x h1 h2 => by omega)
      simp only [Int.cast_ofNat_Int, List.drop_zero, List.nil_append] at f2
      rcases f2 with ⟨g1, a', g2, g3⟩ | ⟨g1, g3⟩
      · have e : joinM l = (Lib.join (l.map tW) [32], 0) := by simp only [joinM, h1, h2, if_false]; rw [if_pos g1]
        have hj := l00Join_eq (X := X) σ' (l.map tW) a' (cX_rs g2 (tws_len hsz)) (by rw [List.length_map]; omega) (tws_len hsz)
        refine ⟨σ', ?_, hpre⟩
        rw [e, EE, Ex_run C_spec_JoinTokens rfl]
        simp (config := {contextual := true, implicitDefEqProofs := false, maxSteps := 1000000}) only [
    ↓PR0, ↓PR1, ↓PR2, PO0, PO1, PO2, PO3, idxV_str, result, resOf, allSome, number, upd, List.map, Option.bind_some, Nat.reduceAdd, Nat.reduceSub, Nat.reduceLeDiff, Nat.reduceLT, Nat.reduceEqDiff, Nat.zero_add, Nat.add_zero, Nat.le_refl, 
    reduceIte, ne_eq, not_false_eq_true, and_self, true_and, and_true, reduceCtorEq, cond_true, cond_false, c_spec_JoinTokens, ha.cellsOf, hlen, h1', h2', decide_false, List.replicate_zero, g3, hj]
      · have e : joinM l = ([], 1) := by simp only [joinM, h1, h2, if_false]; rw [if_neg (by rw [g1]; decide)]
        refine ⟨σ', ?_, hpre⟩
        rw [e, EE, Ex_run C_spec_JoinTokens rfl]
        simp (config := {contextual := true, implicitDefEqProofs := false, maxSteps := 1000000}) only [
    ↓PR0, ↓PR1, ↓PR2, PO0, PO1, PO2, PO3, idxV_str, result, resOf, allSome, number, upd, List.map, Option.bind_some, Nat.reduceAdd, Nat.reduceSub, Nat.reduceLeDiff, Nat.reduceLT, Nat.reduceEqDiff, Nat.zero_add, Nat.add_zero, Nat.le_refl, 
    reduceIte, ne_eq, not_false_eq_true, and_self, true_and, and_true, reduceCtorEq, cond_true, cond_false, c_spec_JoinTokens, ha.cellsOf, hlen, h1', h2', decide_false, List.replicate_zero, g3]
theorem implJoinTokens_eq (hX : LibX X ∧ JoinX X) (σ : Store) (l : List TokM) (al : AV) (ha : RS RTok 3 σ l al) (hl : l.length ≤ 1048576) (hsz : ∀ s ∈ l, s.text.length ≤ 1048576) : ∃ σ', EE X f_impl_JoinTokens [al] σ = some (.tup [.str (joinM l).1, int (joinM l).2], σ') ∧ Pre σ σ' := by
  obtain ⟨hs, hok⟩ := rtok_cK ha
  have hlen := ha.len
  by_cases h1 : 4096 < l.length
  · have h1' : (4096 : Int) < (l.length : Int) := by omega
    have e : joinM l = ([], 2) := by simp only [joinM, h1, if_true]
    refine ⟨σ, ?_, Fr.refl _ _⟩
    rw [e, EE, Ex_run C_impl_JoinTokens rfl]
    simp (config := {contextual := true, implicitDefEqProofs := false, maxSteps := 1000000}) only [
    ↓PR0, ↓PR1, ↓PR2, PO0, PO1, PO2, PO3, idxV_str, result, resOf, allSome, number, upd, List.map, Option.bind_some, Nat.reduceAdd, Nat.reduceSub, Nat.reduceLeDiff, Nat.reduceLT, Nat.reduceEqDiff, Nat.zero_add, Nat.add_zero, Nat.le_refl, 
    reduceIte, ne_eq, not_false_eq_true, and_self, true_and, and_true, reduceCtorEq, cond_true, cond_false, c_impl_JoinTokens, ha.cellsOf, hlen, h1', decide_true]
  · have h1' : ¬ (4096 : Int) < (l.length : Int) := by omega
    by_cases h2 : 300 < l.length
    · have h2' : (300 : Int) < (l.length : Int) := by omega
      have e : joinM l = ([], 6) := by simp only [joinM, h1, h2, if_true, if_false]
      refine ⟨σ, ?_, Fr.refl _ _⟩
      rw [e, EE, Ex_run C_impl_JoinTokens rfl]
      simp (config := {contextual := true, implicitDefEqProofs := false, maxSteps := 1000000}) only [
    ↓PR0, ↓PR1, ↓PR2, PO0, PO1, PO2, PO3, idxV_str, result, resOf, allSome, number, upd, List.map, Option.bind_some, Nat.reduceAdd, Nat.reduceSub, Nat.reduceLeDiff, Nat.reduceLT, Nat.reduceEqDiff, Nat.zero_add, Nat.add_zero, Nat.le_refl, 
    reduceIte, ne_eq, not_false_eq_true, and_self, true_and, and_true, reduceCtorEq, cond_true, cond_false, c_impl_JoinTokens, ha.cellsOf, hlen, h1', h2', decide_true, decide_false]
    · have h2' : ¬ (300 : Int) < (l.length : Int) := by omega
      have hw : OwR σ.length (σ ++ [⟨[], 1, 0, .own⟩]) 1 (cX []) (.sl σ.length 0 0 0) := OwR.new σ (cX []) 1
      obtain ⟨σ', f1, f2⟩ := implJoin_loop (R := AV × Store) hX.1 l al (by omega) (slAt_off hs) hok hsz l.length 0 [] _ _ (by omega) rfl (hs.append _) hw
      have hpre : Pre σ σ' := (Pre.app σ [(⟨[], 1, 0, .own⟩ : Row)]).trans f1 (fun x h1 h2 => by omega)
      simp only [Int.cast_ofNat_Int, List.drop_zero, List.nil_append] at f2
      rcases f2 with ⟨g1, a', g2, g3⟩ | ⟨g1, g3⟩
      · have e : joinM l = (Lib.join (l.map tW) [32], 0) := by simp only [joinM, h1, h2, if_false]; rw [if_pos g1]
        have hj := hX.2 σ' (l.map tW) a' [32] (cX_rs g2 (tws_len hsz)) (by rw [List.length_map]; omega) (join_le _ (by rw [List.length_map]; omega) (tws_len hsz))
        refine ⟨σ', ?_, hpre⟩
        rw [e, EE, Ex_run C_impl_JoinTokens rfl]
        simp (config := {contextual := true, implicitDefEqProofs := false, maxSteps := 1000000}) only [
    ↓PR0, ↓PR1, ↓PR2, PO0, PO1, PO2, PO3, idxV_str, result, resOf, allSome, number, upd, List.map, Option.bind_some, Nat.reduceAdd, Nat.reduceSub, Nat.reduceLeDiff, Nat.reduceLT, Nat.reduceEqDiff, Nat.zero_add, Nat.add_zero, Nat.le_refl, 
    reduceIte, ne_eq, not_false_eq_true, and_self, true_and, and_true, reduceCtorEq, cond_true, cond_false, c_impl_JoinTokens, ha.cellsOf, hlen, h1', h2', decide_false, List.replicate_zero, g3, hj]
      · have e : joinM l = ([], 1) := by simp only [joinM, h1, h2, if_false]; rw [if_neg (by rw [g1]; decide)]
        refine ⟨σ', ?_, hpre⟩
        rw [e, EE, Ex_run C_impl_JoinTokens rfl]
        simp (config := {contextual := true, implicitDefEqProofs := false, maxSteps := 1000000}) only [
    ↓PR0, ↓PR1, ↓PR2, PO0, PO1, PO2, PO3, idxV_str, result, resOf, allSome, number, upd, List.map, Option.bind_some, Nat.reduceAdd, Nat.reduceSub, Nat.reduceLeDiff, Nat.reduceLT, Nat.reduceEqDiff, Nat.zero_add, Nat.add_zero, Nat.le_refl, 
    reduceIte, ne_eq, not_false_eq_true, and_self, true_and, and_true, reduceCtorEq, cond_true, cond_false, c_impl_JoinTokens, ha.cellsOf, hlen, h1', h2', decide_false, List.replicate_zero, g3]
set_option maxHeartbeats 1000000 in
theorem law_JoinTokens (hX : LibX X ∧ JoinX X) (σ : Store) (l : List TokM) (al : AV) (ha : RS RTok 3 σ l al) (hln : LenOk l.length) : ∃ σ', EE X f_laws_FnExactJoinTokens [al] σ = some (.bool true, σ') := by
  obtain ⟨w, hw, hw1, hw2⟩ := szTokenS_eq (X := X) σ l al 1048576 ha hln (by decide) (by decide)
  have c0 := ha.cellsOf
  by_cases hneg : w < 0
  · refine ⟨σ, ?_⟩
    rw [EE, Ex_run C_laws_FnExactJoinTokens rfl]
    simp (config := {contextual := true, implicitDefEqProofs := false, maxSteps := 1000000}) only [
    ↓PR0, ↓PR1, ↓PR2, PO0, PO1, PO2, PO3, idxV_str, result, resOf, allSome, number, upd, List.map, Option.bind_some, Nat.reduceAdd, Nat.reduceSub, Nat.reduceLeDiff, Nat.reduceLT, Nat.reduceEqDiff, Nat.zero_add, Nat.add_zero, Nat.le_refl, 
    reduceIte, ne_eq, not_false_eq_true, and_self, true_and, and_true, reduceCtorEq, cond_true, cond_false, c_laws_FnExactJoinTokens, c0, hw, hneg, decide_true]
  · have hsum : l.length + sumS TokM.size l ≤ 1048576 := by rcases hw2 with h | h <;> omega
    have hsz : ∀ s ∈ l, s.text.length ≤ 1048576 := fun s hs => by have : s.size ≤ sumS TokM.size l := sumS_mem hs; simp only [TokM.size] at this; omega
    have hl : l.length ≤ 1048576 := by omega
    obtain ⟨a1, e1, t1, r1, k1⟩ := toTokenS_eq (X := X) σ al l ha hl
    obtain ⟨σ2, s1, s2⟩ := specJoinTokens_eq (X := X) _ l a1 r1.self.1 hl hsz
    have p2 : Pre σ σ2 := (Pre.app σ e1).pre s2
    have ha2 := ha.pre RTok.mono p2
    obtain ⟨a3, e3, t3, r3, k3⟩ := toTokenS_eq (X := X) σ2 al l ha2 hl
    obtain ⟨σ4, i1, i2⟩ := implJoinTokens_eq hX _ l a3 r3.self.1 hl hsz
    have r4 := r3.self.1.pre RTok.mono i2
    have ha4 := ha2.pre RTok.mono ((Pre.app σ2 e3).pre i2)
    obtain ⟨a5, e5, t5, r5, k5⟩ := toTokenS_eq (X := X) σ4 al l ha4 hl
    have q := eqTokenS_eq (X := X) _ l a3 l a5 (r4.pre RTok.mono (Pre.app σ4 e5)) r5.self.1 (by omega)
    rw [TokM.reflS] at q
    refine ⟨σ4 ++ e5, ?_⟩
    rw [EE, Ex_run C_laws_FnExactJoinTokens rfl]
    simp (config := {contextual := true, implicitDefEqProofs := false, maxSteps := 1000000}) only [
    ↓PR0, ↓PR1, ↓PR2, PO0, PO1, PO2, PO3, idxV_str, result, resOf, allSome, number, upd, List.map, Option.bind_some, Nat.reduceAdd, Nat.reduceSub, Nat.reduceLeDiff, Nat.reduceLT, Nat.reduceEqDiff, Nat.zero_add, Nat.add_zero, Nat.le_refl, 
    reduceIte, ne_eq, not_false_eq_true, and_self, true_and, and_true, reduceCtorEq, cond_true, cond_false, c_laws_FnExactJoinTokens, c0, hw, hneg, decide_false, t1, k1, s1, t3, k3, i1, bne_self_eq_false, t5, k5, q, Bool.not_true]
theorem lawR_JoinTokens (hX : LibX X ∧ JoinX X) {σ : Store} {l : List TokM} {a : AV} (h : RL RTok 3 σ l [a]) : ∃ σ', EE X f_laws_FnExactJoinTokens [a] σ = some (.bool true, σ') := by
  obtain ⟨a', e, h, hln⟩ := h
  cases e
  exact law_JoinTokens hX σ l a h hln
end Go.X
