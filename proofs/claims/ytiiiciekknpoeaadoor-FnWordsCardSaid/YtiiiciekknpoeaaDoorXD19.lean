/- Values, their words: the law of FnWords. -/
import Derived.Test.YtiiiciekknpoeaaDoorXD18
import Derived.Test.YtiiiciekknpoeaaDoorXVd
import Derived.Test.YtiiiciekknpoeaaDoorXV6
set_option linter.unusedVariables false
set_option linter.unusedSimpArgs false
set_option maxRecDepth 20000
namespace Go.X
open Go Go.Lib
variable {X : Call}

abbrev nStr : List UInt8 := [115, 116, 114]
theorem kinds_str (σ : Store) : EE X f_impl_builtinKinds [.str nStr] σ = some (.tup [.sl σ.length 0 0 1, .bool true], σ ++ [⟨[[int (-1)]], 1, 0, .own⟩]) := by
  have r1 : List.replicate 1 [AV.int .i64 0] = [[.int .i64 0]] := rfl
  have b1 : (nStr == [108, 101, 110]) = false := by decide
  rw [EE, Ex_run C_impl_builtinKinds rfl]
  simp (config := {contextual := true, implicitDefEqProofs := false, maxSteps := 1000000}) only [
    ↓PR0, ↓PR1, ↓PR2, PO0, PO1, PO2, PO3, idxV_str, result, resOf, allSome, number, upd, List.map, Option.bind_some, Nat.reduceAdd, Nat.reduceSub, Nat.reduceLeDiff, Nat.reduceLT, Nat.reduceEqDiff, Nat.zero_add, Nat.add_zero, Nat.le_refl, 
    reduceIte, ne_eq, not_false_eq_true, and_self, true_and, and_true, reduceCtorEq, cond_true, cond_false, c_impl_builtinKinds, b1, beq_self_eq_true, r1, List.set_cons_zero]
theorem builtin_str (hX : LibX X) (σ : Store) (a : AV) (v : ValueM) (ha : RS RValue 3 σ [v] a) (hv : OkV v) : ∃ σ', EE X f_impl_builtin [.str nStr, a] σ = some (.tup [.agg (vText (valW v)).cells, int 0], σ') ∧ Pre σ σ' := by
  refine ⟨_, ?_, Pre.app σ [(⟨[[int (-1)]], 1, 0, .own⟩ : Row)]⟩
  have hk : RS RI 1 (σ ++ [⟨[[int (-1)]], 1, 0, .own⟩]) [-1] (.sl σ.length 0 0 1) := ilits σ [-1] (by intro x hx; simp at hx; subst hx; unfold I64; decide)
  obtain ⟨_, ⟨e0, _⟩, k0, kp0, _⟩ := hk.get (i := 0) rfl
  subst e0
  obtain ⟨_, ⟨e0, _⟩, i0, p0, f0, q0⟩ := (ha.mono RValue.mono [(⟨[[int (-1)]], 1, 0, .own⟩ : Row)]).get (i := 0) rfl
  subst e0
  simp only [Int.cast_ofNat_Int] at k0 i0
  have hle := hk.len
  simp only [List.length_cons, List.length_nil, Nat.zero_add, Int.cast_ofNat_Int] at hle
  have c0 : (0 : Int) < 1 := by decide
  have c1 : ¬ (1 : Int) < 1 := by decide
  have g0 : ¬ ((0 : Int) ≤ -1) := by decide
  have w1 : IntKind.i64.wrap (0 + 1) = 1 := by decide
  have hld : ld true 3 0 v.cells = some (.agg v.cells) := ld_all rfl
  have b1 : (nStr == [108, 101, 110]) = false := by decide
  have st : ∀ (i : Int) (kk : Out → S → Option (AV × Store)), loopK (EE X) [0, 1, 4, 18, 19, 20] l_impl_builtin_0 ([(0, .v (.str nStr)), (1, .v a), (4, .lp 4 0), (18, .v (.sl σ.length 0 0 1)), (19, .v (int 1)), (20, .v (int i))], ⟨[(4, z3)], σ ++ [⟨[[int (-1)]], 1, 0, .own⟩]⟩) kk = runK (EE X) (_) ([(0, .v (.str nStr)), (1, .v a), (4, .lp 4 0), (18, .v (.sl σ.length 0 0 1)), (19, .v (int 1)), (20, .v (int i))], ⟨[(4, z3)], σ ++ [⟨[[int (-1)]], 1, 0, .own⟩]⟩) (lpK (EE X) [0, 1, 4, 18, 19, 20] l_impl_builtin_0 kk) := fun i kk => loopK_step l_impl_builtin_0.eq_1 _ _ _ _
  have kl := kinds_str (X := X) σ
  have hvw := implValW_eq hX hv (σ ++ [(⟨[[int (-1)]], 1, 0, .own⟩ : Row)])
  simp only [ValueM.cells] at hvw
  rw [EE, Ex_run C_impl_builtin rfl]
  simp (config := {contextual := true, implicitDefEqProofs := false, maxSteps := 1000000}) only [
    ↓PR0, ↓PR1, ↓PR2, PO0, PO1, PO2, PO3, idxV_str, result, resOf, allSome, number, upd, List.map, Option.bind_some, Nat.reduceAdd, Nat.reduceSub, Nat.reduceLeDiff, Nat.reduceLT, Nat.reduceEqDiff, Nat.zero_add, Nat.add_zero, Nat.le_refl, 
    reduceIte, ne_eq, not_false_eq_true, and_self, true_and, and_true, reduceCtorEq, cond_true, cond_false, c_impl_builtin, kl, hle, ↓st, c0, c1, g0, w1, decide_true, decide_false, k0, kp0, i0, p0, f0, q0, hld, ValueM.cells, b1, 
    beq_self_eq_true, hvw, ofText_eq (X := X)]
theorem Builtin_str (hX : LibX X) (σ : Store) (a : AV) (v : ValueM) (ha : RS RValue 3 σ [v] a) (hv : OkV v) : ∃ σ', EE X f_impl_Builtin [.str nStr, a] σ = some (.tup [.agg (vText (valW v)).cells, int 0], σ') ∧ Pre σ σ' :=
  Builtin_of σ _ nStr a _ [v] 1 (by decide) ha (by intro x hx; simp at hx; subst hx; exact hv) rfl (by omega) (kinds_str σ) rfl (Pre.app _ _) (builtin_str hX _ a v (ha.mono RValue.mono _) hv)
theorem count_cut (σ : Store) : ∃ σ', EE X f_impl_BuiltinCount [.str nCut] σ = some (.tup [int 3, int 0], σ') ∧ Pre σ σ' := by
  have kl := kinds_cut (X := X) σ
  have h3 : ¬ ((65536 : Int) < ((3 : Nat) : Int)) := by decide
  have hle : ∀ r v, lenV false (.sl r v 0 3) = some (int ((3 : Nat) : Int)) := fun _ _ => rfl
  refine ⟨_, ?_, Pre.app σ [(⟨[[int 3], [int 1], [int 1]], 1, 0, .own⟩ : Row)]⟩
  rw [EE, Ex_run C_impl_BuiltinCount rfl]
  simp (config := {contextual := true, implicitDefEqProofs := false, maxSteps := 1000000}) only [
    ↓PR0, ↓PR1, ↓PR2, PO0, PO1, PO2, PO3, idxV_str, result, resOf, allSome, number, upd, List.map, Option.bind_some, Nat.reduceAdd, Nat.reduceSub, Nat.reduceLeDiff, Nat.reduceLT, Nat.reduceEqDiff, Nat.zero_add, Nat.add_zero, Nat.le_refl, 
    reduceIte, ne_eq, not_false_eq_true, and_self, true_and, and_true, reduceCtorEq, cond_true, cond_false, c_impl_BuiltinCount, kl, h3, decide_false, Bool.not_true, hle]
  rfl
def kindW (v : ValueM) : List UInt8 := if v.kind = 0 then [110, 117, 108, 108] else if v.kind = 1 then [105, 110, 116] else if v.kind = 2 then [98, 111, 111, 108] else [116, 101, 120, 116]
def kindL : List (List UInt8) := [[110, 117, 108, 108], [105, 110, 116], [98, 111, 111, 108], [116, 101, 120, 116]]
theorem kindL_rs (σ : Store) : RS RT 1 (σ ++ [⟨[[.str [110, 117, 108, 108]], [.str [105, 110, 116]], [.str [98, 111, 111, 108]], [.str [116, 101, 120, 116]]], 1, 0, .own⟩]) kindL (.sl σ.length 0 0 4) := lits σ kindL (by intro t ht; simp [kindL] at ht; rcases ht with rfl | rfl | rfl | rfl <;> (unfold LenOk; decide))
theorem kind_at {v : ValueM} (h : OkV v) : ∃ i : Nat, v.kind = i ∧ kindL[i]? = some (kindW v) := by
  cases h with
  | nil => exact ⟨0, rfl, rfl⟩
  | int n _ _ => exact ⟨1, rfl, rfl⟩
  | bool b => exact ⟨2, rfl, rfl⟩
  | text t _ => exact ⟨3, rfl, rfl⟩
theorem implKindWord_eq {v : ValueM} (h : OkV v) (σ : Store) : ∃ σ', EE X f_impl_KindWord [.agg v.cells] σ = some (.tup [.str (kindW v), int 0], σ') ∧ Pre σ σ' := by
  have h1 := implValueOK_eq (X := X) v σ
  rw [h.ok] at h1
  obtain ⟨i, hi, hw⟩ := kind_at h
  obtain ⟨c1, ⟨e0, _⟩, k0, kp0, _⟩ := (kindL_rs σ).get hw
  subst e0
  rw [← hi] at k0
  refine ⟨_, ?_, Pre.app σ [(⟨[[.str [110, 117, 108, 108]], [.str [105, 110, 116]], [.str [98, 111, 111, 108]], [.str [116, 101, 120, 116]]], 1, 0, .own⟩ : Row)]⟩
  rw [EE, Ex_run C_impl_KindWord rfl]
  simp (config := {contextual := true, implicitDefEqProofs := false, maxSteps := 1000000}) only [
    ↓PR0, ↓PR1, ↓PR2, PO0, PO1, PO2, PO3, idxV_str, result, resOf, allSome, number, upd, List.map, Option.bind_some, Nat.reduceAdd, Nat.reduceSub, Nat.reduceLeDiff, Nat.reduceLT, Nat.reduceEqDiff, Nat.zero_add, Nat.add_zero, Nat.le_refl, 
    reduceIte, ne_eq, not_false_eq_true, and_self, true_and, and_true, reduceCtorEq, cond_true, cond_false, c_impl_KindWord, h1, Bool.not_true, List.replicate_succ, List.replicate_zero, List.set_cons_zero, List.set_cons_succ, k0, kp0]
theorem specKindWord_eq {v : ValueM} (h : OkV v) (σ : Store) : ∃ σ', EE X f_spec_KindWord [.agg v.cells] σ = some (.tup [.str (kindW v), int 0], σ') ∧ Pre σ σ' := by
  have h1 := specValueOK_eq (X := X) v σ
  rw [h.ok] at h1
  obtain ⟨i, hi, hw⟩ := kind_at h
  obtain ⟨c1, ⟨e0, _⟩, k0, kp0, _⟩ := (kindL_rs σ).get hw
  subst e0
  rw [← hi] at k0
  refine ⟨_, ?_, Pre.app σ [(⟨[[.str [110, 117, 108, 108]], [.str [105, 110, 116]], [.str [98, 111, 111, 108]], [.str [116, 101, 120, 116]]], 1, 0, .own⟩ : Row)]⟩
  rw [EE, Ex_run C_spec_KindWord rfl]
  simp (config := {contextual := true, implicitDefEqProofs := false, maxSteps := 1000000}) only [
    ↓PR0, ↓PR1, ↓PR2, PO0, PO1, PO2, PO3, idxV_str, result, resOf, allSome, number, upd, List.map, Option.bind_some, Nat.reduceAdd, Nat.reduceSub, Nat.reduceLeDiff, Nat.reduceLT, Nat.reduceEqDiff, Nat.zero_add, Nat.add_zero, Nat.le_refl, 
    reduceIte, ne_eq, not_false_eq_true, and_self, true_and, and_true, reduceCtorEq, cond_true, cond_false, c_spec_KindWord, h1, Bool.not_true, List.replicate_succ, List.replicate_zero, List.set_cons_zero, List.set_cons_succ, k0, kp0]
theorem quoteTextP_eq (t : List UInt8) (ht : t.length ≤ 60) (σ : Store) : ∃ s σ' c, EE X f_impl_QuoteText [.str t] σ = some (.tup [.str s, int c], σ') ∧ Pre σ σ' ∧ ((plainM t = true ∧ c = 0 ∧ s = quoteM t) ∨ (plainM t = false ∧ c = 4)) := by
  have hb : ¬ (65536 : Int) < (t.length : Int) := by omega
  have hp := wordText_eq (X := X) t σ (by unfold LenOk; omega)
  cases hm : plainM t with
  | true =>
    rw [hm] at hp
    obtain ⟨σ', q1, q2⟩ := quoteText_eq (X := X) t (by omega) σ
    refine ⟨quoteM t, σ', 0, ?_, q2, .inl ⟨rfl, rfl, rfl⟩⟩
    rw [EE, Ex_run C_impl_QuoteText rfl]
    simp (config := {contextual := true, implicitDefEqProofs := false, maxSteps := 1000000}) only [
    ↓PR0, ↓PR1, ↓PR2, PO0, PO1, PO2, PO3, idxV_str, result, resOf, allSome, number, upd, List.map, Option.bind_some, Nat.reduceAdd, Nat.reduceSub, Nat.reduceLeDiff, Nat.reduceLT, Nat.reduceEqDiff, Nat.zero_add, Nat.add_zero, Nat.le_refl, 
    reduceIte, ne_eq, not_false_eq_true, and_self, true_and, and_true, reduceCtorEq, cond_true, cond_false, c_impl_QuoteText, hb, decide_false, hp, Bool.not_true, q1]
  | false =>
    rw [hm] at hp
    refine ⟨[], σ, 4, ?_, Fr.refl _ _, .inr ⟨rfl, rfl⟩⟩
    rw [EE, Ex_run C_impl_QuoteText rfl]
    simp (config := {contextual := true, implicitDefEqProofs := false, maxSteps := 1000000}) only [
    ↓PR0, ↓PR1, ↓PR2, PO0, PO1, PO2, PO3, idxV_str, result, resOf, allSome, number, upd, List.map, Option.bind_some, Nat.reduceAdd, Nat.reduceSub, Nat.reduceLeDiff, Nat.reduceLT, Nat.reduceEqDiff, Nat.zero_add, Nat.add_zero, Nat.le_refl, 
    reduceIte, ne_eq, not_false_eq_true, and_self, true_and, and_true, reduceCtorEq, cond_true, cond_false, c_impl_QuoteText, hb, decide_false, hp, Bool.not_false]
theorem OkV.kind3 {v : ValueM} (h : OkV v) (hk : v.kind = 3) : v.t.length ≤ 60 := by
  cases h with
  | nil => cases hk
  | int n _ _ => cases hk
  | bool b => cases hk
  | text t h => exact h
theorem valNew (σ : Store) (v : ValueM) (h : OkV v) : RS RValue 3 (σ ++ [⟨[v.cells], 3, 0, .own⟩]) [v] (.sl σ.length 0 0 1) := vlits σ [v] (by intro x hx; simp at hx; subst hx; exact h)
set_option maxHeartbeats 2000000 in
theorem law_Words (hX : LibX X) (σ : Store) (code more : List UInt8) (a b : AV) (ha : RS RByte 1 σ code a) (hb : RS RByte 1 σ more b) (hln : LenOk code.length) (hln2 : LenOk more.length) : ∃ σ', EE X f_laws_FnWords [a, b] σ = some (.bool true, σ') := by
  have ca := ha.cellsOf
  have cb := hb.cellsOf
  have la := ha.len
  have lb := hb.len
  by_cases h1 : 1048576 < code.length
  · have h1' : (1048576 : Int) < (code.length : Int) := by omega
    refine ⟨σ, ?_⟩
    rw [EE, Ex_run C_laws_FnWords rfl]
    simp (config := {contextual := true, implicitDefEqProofs := false, maxSteps := 1000000}) only [
    ↓PR0, ↓PR1, ↓PR2, PO0, PO1, PO2, PO3, idxV_str, result, resOf, allSome, number, upd, List.map, Option.bind_some, Nat.reduceAdd, Nat.reduceSub, Nat.reduceLeDiff, Nat.reduceLT, Nat.reduceEqDiff, Nat.zero_add, Nat.add_zero, Nat.le_refl, 
    reduceIte, ne_eq, not_false_eq_true, and_self, true_and, and_true, reduceCtorEq, cond_true, cond_false, c_laws_FnWords, ca, cb, la, h1', decide_true]
  have h1' : ¬ (1048576 : Int) < (code.length : Int) := by omega
  by_cases h2 : 1048576 < more.length
  · have h2' : (1048576 : Int) < (more.length : Int) := by omega
    refine ⟨σ, ?_⟩
    rw [EE, Ex_run C_laws_FnWords rfl]
    simp (config := {contextual := true, implicitDefEqProofs := false, maxSteps := 1000000}) only [
    ↓PR0, ↓PR1, ↓PR2, PO0, PO1, PO2, PO3, idxV_str, result, resOf, allSome, number, upd, List.map, Option.bind_some, Nat.reduceAdd, Nat.reduceSub, Nat.reduceLeDiff, Nat.reduceLT, Nat.reduceEqDiff, Nat.zero_add, Nat.add_zero, Nat.le_refl, 
    reduceIte, ne_eq, not_false_eq_true, and_self, true_and, and_true, reduceCtorEq, cond_true, cond_false, c_laws_FnWords, ca, cb, la, lb, h1', h2', decide_true, decide_false]
  have h2' : ¬ (1048576 : Int) < (more.length : Int) := by omega
  obtain ⟨v, σ1, v1, v2, v3⟩ := valueOf_eq (X := X) σ a code ha (by omega)
  have t1 := implValueText_eq hX v2 σ1
  have t2 := specValueText_eq (X := X) v2 σ1
  obtain ⟨σ2, k1, k2⟩ := implKindWord_eq (X := X) v2 σ1
  obtain ⟨σ3, k3, k4⟩ := specKindWord_eq (X := X) v2 σ2
  simp only [ValueM.cells] at v1 t1 t2 k1 k3
  have cA : ∀ cs, cellsOf (.agg cs) = some cs := fun _ => rfl
  have fin : ∀ (s : List UInt8) (σ4 : Store), (∃ σ', EE X f_impl_ReadValue [.str s] σ4 = some (.tup [.agg v.cells, int 0], σ') ∧ Pre σ4 σ') → ∃ σ5 σ6 σ7, EE X f_impl_ReadValue [.str s] σ4 = some (.tup [.agg [int v.kind, int v.n, .str v.t], int 0], σ5) ∧ EE X f_impl_Builtin [.str nStr, .sl σ5.length 0 0 1] (σ5 ++ [⟨[[int v.kind, int v.n, .str v.t]], 3, 0, .own⟩]) = some (.tup [.agg [int 3, int 0, .str (valW v)], int 0], σ6) ∧ EE X f_impl_BuiltinCount [.str nCut] σ6 = some (.tup [int 3, int 0], σ7) := by
    intro s σ4 ⟨σ5, r1, r2⟩
    obtain ⟨σ6, s1, _⟩ := Builtin_str hX _ _ v (valNew σ5 v v2) v2
    obtain ⟨σ7, n1, _⟩ := count_cut (X := X) σ6
    exact ⟨σ5, σ6, σ7, r1, s1, n1⟩
  by_cases hk : v.kind = 3
  · have hk' : (v.kind == 3) = true := by rw [hk]; rfl
    obtain ⟨s, σ4, c, q1, q2, q3⟩ := quoteTextP_eq (X := X) v.t (v2.kind3 hk) σ3
    rcases q3 with ⟨q3, rfl, rfl⟩ | ⟨q3, rfl⟩
    · have hpl : v.t.all prB = true := by simp only [plainM, Bool.and_eq_true] at q3; exact q3.2
      have hr := readValue_eq hX v2 (fun _ => hpl) σ4
      have e : valR v = quoteM v.t := by simp only [valR, hk, if_true]
      rw [e] at hr
      obtain ⟨σ5, σ6, σ7, r1, s1, n1⟩ := fin _ σ4 hr
      refine ⟨σ7, ?_⟩
      rw [EE, Ex_run C_laws_FnWords rfl]
      simp (config := {contextual := true, implicitDefEqProofs := false, maxSteps := 1000000}) only [
    ↓PR0, ↓PR1, ↓PR2, PO0, PO1, PO2, PO3, idxV_str, result, resOf, allSome, number, upd, List.map, Option.bind_some, Nat.reduceAdd, Nat.reduceSub, Nat.reduceLeDiff, Nat.reduceLT, Nat.reduceEqDiff, Nat.zero_add, Nat.add_zero, Nat.le_refl, 
    reduceIte, ne_eq, not_false_eq_true, and_self, true_and, and_true, reduceCtorEq, cond_true, cond_false, c_laws_FnWords, ca, cb, la, lb, h1', h2', decide_false, v1, cA, t1, t2, k1, k3, bne_self_eq_false, hk', q1, r1, List.replicate_succ, 
    List.replicate_zero, List.set_cons_zero, s1, n1, beq_self_eq_true]
      rfl
    · refine ⟨σ4, ?_⟩
      have c4 : ((4 : Int) != 0) = true := rfl
      rw [EE, Ex_run C_laws_FnWords rfl]
      simp (config := {contextual := true, implicitDefEqProofs := false, maxSteps := 1000000}) only [
    ↓PR0, ↓PR1, ↓PR2, PO0, PO1, PO2, PO3, idxV_str, result, resOf, allSome, number, upd, List.map, Option.bind_some, Nat.reduceAdd, Nat.reduceSub, Nat.reduceLeDiff, Nat.reduceLT, Nat.reduceEqDiff, Nat.zero_add, Nat.add_zero, Nat.le_refl, 
    reduceIte, ne_eq, not_false_eq_true, and_self, true_and, and_true, reduceCtorEq, cond_true, cond_false, c_laws_FnWords, ca, cb, la, lb, h1', h2', decide_false, v1, cA, t1, t2, k1, k3, bne_self_eq_false, hk', q1, c4, beq_self_eq_true]
  · have hk' : (v.kind == 3) = false := by rw [beq_eq_false_iff_ne]; exact hk
    have hr := readValue_eq hX v2 (fun h => (hk h).elim) σ3
    have e : valR v = valW v := by simp only [valR, hk, if_false]
    rw [e] at hr
    obtain ⟨σ5, σ6, σ7, r1, s1, n1⟩ := fin _ σ3 hr
    refine ⟨σ7, ?_⟩
    rw [EE, Ex_run C_laws_FnWords rfl]
    simp (config := {contextual := true, implicitDefEqProofs := false, maxSteps := 1000000}) only [
    ↓PR0, ↓PR1, ↓PR2, PO0, PO1, PO2, PO3, idxV_str, result, resOf, allSome, number, upd, List.map, Option.bind_some, Nat.reduceAdd, Nat.reduceSub, Nat.reduceLeDiff, Nat.reduceLT, Nat.reduceEqDiff, Nat.zero_add, Nat.add_zero, Nat.le_refl, 
    reduceIte, ne_eq, not_false_eq_true, and_self, true_and, and_true, reduceCtorEq, cond_true, cond_false, c_laws_FnWords, ca, cb, la, lb, h1', h2', decide_false, v1, cA, t1, t2, k1, k3, bne_self_eq_false, hk', r1, List.replicate_succ, 
    List.replicate_zero, List.set_cons_zero, s1, n1, beq_self_eq_true]
    rfl
theorem lawR_Words (hX : LibX X) {σ : Store} {code more : List UInt8} {a b : AV} (ha : RL RByte 1 σ code [a]) (hb : RL RByte 1 σ more [b]) : ∃ σ', EE X f_laws_FnWords [a, b] σ = some (.bool true, σ') := by
  obtain ⟨a', e, h, hln⟩ := ha
  cases e
  obtain ⟨b', e, h', hln'⟩ := hb
  cases e
  exact law_Words hX σ code more a b h h' hln hln'
end Go.X
