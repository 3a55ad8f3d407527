/- Tokens joined: the law of JoinTokens. -/
import Derived.Test.YtiiiciekknpoeaaGreatDoorXD15
set_option linter.unusedVariables false
set_option linter.unusedSimpArgs false
set_option maxRecDepth 20000
namespace Go.X
open Go Go.Lib
variable {X : Call}

def joinM (l : List TokM) : List UInt8 × Int := if 4096 < l.length then ([], 2) else if 300 < l.length then ([], 6) else if l.all tB = true then (Lib.join (l.map tW) [32], 0) else ([], 1)
theorem lens_le : ∀ (l : List (List UInt8)) (B : Nat), (∀ t ∈ l, t.length ≤ B) → (joinTail [32] l).length ≤ l.length * (B + 1)
  | [], B, _ => by simp [joinTail]
  | t :: l, B, h => by
    have ih := lens_le l B (fun x hx => h x (List.mem_cons_of_mem _ hx))
    have h1 := h t (by simp)
    simp only [joinTail, List.map_cons, List.flatten_cons, List.length_append, List.length_cons, List.length_nil] at ih ⊢
    rw [Nat.succ_mul]
    omega
theorem join_le (l : List (List UInt8)) (hl : l.length ≤ 300) (h : ∀ t ∈ l, t.length ≤ 2999990) : (Lib.join l [32]).length ≤ 140737488355328 := by
  cases l with
  | nil => simp [Lib.join, List.intercalate]
  | cons t l =>
    rw [join_cons, List.length_append]
    have h1 := h t (by simp)
    have h2 := lens_le l 2999990 (fun x hx => h x (List.mem_cons_of_mem _ hx))
    simp only [List.length_cons] at hl
    have h3 : l.length * (2999990 + 1) ≤ 300 * (2999990 + 1) := Nat.mul_le_mul_right _ (by omega)
    have h4 : 300 * (2999990 + 1) = 899997300 := rfl
    omega
theorem tws_len {l : List TokM} (hsz : ∀ s ∈ l, s.text.length ≤ 1048576) : ∀ t ∈ l.map tW, t.length ≤ 2999990 := by
  intro t ht
  obtain ⟨m, hm, rfl⟩ := List.mem_map.1 ht
  exact tW_len (hsz m hm)
theorem cX_rs {q : Nat} {σ : Store} {l : List (List UInt8)} {a : AV} (h : OwR q σ 1 (cX l) a) (hl : ∀ t ∈ l, t.length ≤ 2999990) : RS RT 1 σ l a := h.rs (All2.map (fun t ht => ⟨rfl, by have := hl t ht; unfold LenOk; omega⟩))
theorem implJoinTokens_eq (hX : LibX X ∧ JoinX X) (σ : Store) (l : List TokM) (al : AV) (ha : RS RTok 3 σ l al) (hl : l.length ≤ 1048576) (hsz : ∀ s ∈ l, s.text.length ≤ 1048576) : ∃ σ', EE X f_impl_JoinTokens [al] σ = some (.tup [.str (joinM l).1, int (joinM l).2], σ') ∧ Pre σ σ' := by
  obtain ⟨hs, hok⟩ := rtok_cK ha
  have hlen := ha.len
  by_cases h1 : 4096 < l.length
  · have h1' : (4096 : Int) < (l.length : Int) := by omega
    have e : joinM l = ([], 2) := by simp only [joinM, h1, if_true]
    refine ⟨σ, ?_, Fr.refl _ _⟩
    rw [e, EE, Ex_run C_impl_JoinTokens rfl]
    simp (config := {contextual := true, implicitDefEqProofs := false, maxSteps := 1000000}) only [
    ↓PR0, ↓PR1, ↓PR2, PO0, PO1, PO2, PO3, idxV_str, result, resOf, allSome, number, upd, List.map, Option.bind_some, Nat.reduceAdd, Nat.reduceSub, Nat.reduceLeDiff, Nat.reduceLT, Nat.reduceEqDiff, Nat.zero_add, Nat.add_zero, Nat.le_refl, 
    reduceIte, ne_eq, not_false_eq_true, and_self, true_and, and_true, reduceCtorEq, cond_true, cond_false, c_impl_JoinTokens, ha.cellsOf, hlen, h1', decide_true]
  · have h1' : ¬ (4096 : Int) < (l.length : Int) := by omega
    by_cases h2 : 300 < l.length
    · have h2' : (300 : Int) < (l.length : Int) := by omega
      have e : joinM l = ([], 6) := by simp only [joinM, h1, h2, if_true, if_false]
      refine ⟨σ, ?_, Fr.refl _ _⟩
      rw [e, EE, Ex_run C_impl_JoinTokens rfl]
      simp (config := {contextual := true, implicitDefEqProofs := false, maxSteps := 1000000}) only [
    ↓PR0, ↓PR1, ↓PR2, PO0, PO1, PO2, PO3, idxV_str, result, resOf, allSome, number, upd, List.map, Option.bind_some, Nat.reduceAdd, Nat.reduceSub, Nat.reduceLeDiff, Nat.reduceLT, Nat.reduceEqDiff, Nat.zero_add, Nat.add_zero, Nat.le_refl, 
    reduceIte, ne_eq, not_false_eq_true, and_self, true_and, and_true, reduceCtorEq, cond_true, cond_false, c_impl_JoinTokens, ha.cellsOf, hlen, h1', h2', decide_true, decide_false]
    · have h2' : ¬ (300 : Int) < (l.length : Int) := by omega
      have hw : OwR σ.length (σ ++ [⟨[], 1, 0, .own⟩]) 1 (cX []) (.sl σ.length 0 0 0) := OwR.new σ (cX []) 1
      obtain ⟨σ', f1, f2⟩ := implJoin_loop (R := AV × Store) hX.1 l al (by omega) (slAt_off hs) hok hsz l.length 0 [] _ _ (by omega) rfl (hs.append _) hw
      have hpre : Pre σ σ' := (Pre.app σ [(⟨[], 1, 0, .own⟩ : Row)]).trans f1 (fun x h1 h2 => by omega)
      simp only [Int.cast_ofNat_Int, List.drop_zero, List.nil_append] at f2
      rcases f2 with ⟨g1, a', g2, g3⟩ | ⟨g1, g3⟩
      · have e : joinM l = (Lib.join (l.map tW) [32], 0) := by simp only [joinM, h1, h2, if_false]; rw [if_pos g1]
        have hj := hX.2 σ' (l.map tW) a' [32] (cX_rs g2 (tws_len hsz)) (by rw [List.length_map]; omega) (join_le _ (by rw [List.length_map]; omega) (tws_len hsz))
        refine ⟨σ', ?_, hpre⟩
        rw [e, EE, Ex_run C_impl_JoinTokens rfl]
        simp (config := {contextual := true, implicitDefEqProofs := false, maxSteps := 1000000}) only [
    ↓PR0, ↓PR1, ↓PR2, PO0, PO1, PO2, PO3, idxV_str, result, resOf, allSome, number, upd, List.map, Option.bind_some, Nat.reduceAdd, Nat.reduceSub, Nat.reduceLeDiff, Nat.reduceLT, Nat.reduceEqDiff, Nat.zero_add, Nat.add_zero, Nat.le_refl, 
    reduceIte, ne_eq, not_false_eq_true, and_self, true_and, and_true, reduceCtorEq, cond_true, cond_false, c_impl_JoinTokens, ha.cellsOf, hlen, h1', h2', decide_false, List.replicate_zero, g3, hj]
      · have e : joinM l = ([], 1) := by simp only [joinM, h1, h2, if_false]; rw [if_neg (by rw [g1]; decide)]
        refine ⟨σ', ?_, hpre⟩
        rw [e, EE, Ex_run C_impl_JoinTokens rfl]
        simp (config := {contextual := true, implicitDefEqProofs := false, maxSteps := 1000000}) only [
    ↓PR0, ↓PR1, ↓PR2, PO0, PO1, PO2, PO3, idxV_str, result, resOf, allSome, number, upd, List.map, Option.bind_some, Nat.reduceAdd, Nat.reduceSub, Nat.reduceLeDiff, Nat.reduceLT, Nat.reduceEqDiff, Nat.zero_add, Nat.add_zero, Nat.le_refl, 
    reduceIte, ne_eq, not_false_eq_true, and_self, true_and, and_true, reduceCtorEq, cond_true, cond_false, c_impl_JoinTokens, ha.cellsOf, hlen, h1', h2', decide_false, List.replicate_zero, g3]
end Go.X
