/- Values: drawn ones. -/
import Derived.Test.YtiiiciekknpoeaaDoorXV2
set_option linter.unusedVariables false
set_option linter.unusedSimpArgs false
set_option maxRecDepth 20000
namespace Go.X
open Go
variable {X : Call}

theorem mks40 (σ : Store) : mksV 1 1 [.int .u8 0] σ (int 40) (int 40) = some (.sl σ.length 0 0 40, σ ++ [⟨List.replicate 40 [.int .u8 0], 1, 0, .own⟩]) := rfl
theorem value_eq (σ : Store) (p N : Nat) (h : Src σ p N) (hN : N ≤ 999000) : ∃ v σ', EE X f_spec_l00Src_value [.ptr p 0 0 0] σ = some (.agg v.cells, σ') ∧ OkV v ∧ Src σ' p (N + 6) ∧ Fr (fun q => q = p) σ σ' := by
  obtain ⟨k, σ1, e1, a1, b1, s1, f1⟩ := next_eq (X := X) σ p N 9 h (by omega)
  by_cases h0 : k = 0
  · subst h0
    refine ⟨vNil, σ1, ?_, .nil, s1.more (by omega), f1⟩
    rw [EE, Ex_run C_spec_l00Src_value rfl]
    simp (config := {contextual := true, implicitDefEqProofs := false, maxSteps := 1000000}) only [
    ↓PR0, ↓PR1, ↓PR2, PO0, PO1, PO2, PO3, idxV_str, result, resOf, allSome, number, upd, List.map, Option.bind_some, Nat.reduceAdd, Nat.reduceSub, Nat.reduceLeDiff, Nat.reduceLT, Nat.reduceEqDiff, Nat.zero_add, Nat.add_zero, Nat.le_refl, 
    reduceIte, ne_eq, not_false_eq_true, and_self, true_and, and_true, reduceCtorEq, cond_true, cond_false, c_spec_l00Src_value, e1, beq_self_eq_true]
  have n0 : (k == 0) = false := by simpa using h0
  by_cases h1 : k = 1
  · subst h1
    obtain ⟨b, σ2, e2, s2, f2⟩ := chance_eq (X := X) σ1 p _ 2 s1 (by omega) (by omega)
    refine ⟨vBool b, σ2, ?_, .bool b, s2.more (by omega), f1.step f2⟩
    rw [EE, Ex_run C_spec_l00Src_value rfl]
    simp (config := {contextual := true, implicitDefEqProofs := false, maxSteps := 1000000}) only [
    ↓PR0, ↓PR1, ↓PR2, PO0, PO1, PO2, PO3, idxV_str, result, resOf, allSome, number, upd, List.map, Option.bind_some, Nat.reduceAdd, Nat.reduceSub, Nat.reduceLeDiff, Nat.reduceLT, Nat.reduceEqDiff, Nat.zero_add, Nat.add_zero, Nat.le_refl, 
    reduceIte, ne_eq, not_false_eq_true, and_self, true_and, and_true, reduceCtorEq, cond_true, cond_false, c_spec_l00Src_value, e1, n0, beq_self_eq_true, e2, l01Bool_eq (X := X)]
  have n1 : (k == 1) = false := by simpa using h1
  by_cases h23 : k = 2 ∨ k = 3
  · have hp1 := s1.lt
    have p2 := Pre.app σ1 [(⟨List.replicate 40 [.int .u8 0], 1, 0, .own⟩ : Row)]
    have hel : ∀ bx, elsOf ⟨bx, σ1 ++ [⟨List.replicate 40 [.int .u8 0], 1, 0, .own⟩]⟩ 1 (.v (.sl σ1.length 0 0 40)) = some (List.replicate 40 [.int .u8 0]) := fun bx => (SlAt.new σ1 (List.replicate 40 [.int .u8 0]) 1).els bx
    have c40 : ((0 : Int) ≤ 40 ∧ (40 : Int) ≤ 40 ∧ (40 : Int) * ((1 : Nat) : Int) ≤ 140737488355328 ∧ (40 : Int) ≤ 140737488355328) := by decide
    have t40 : (40 : Int).toNat = 40 := rfl
    have r6 : List.replicate 6 [AV.str []] = [[.str []], [.str []], [.str []], [.str []], [.str []], [.str []]] := rfl
    have hal : allSome byteOfCell (List.replicate 40 [.int .u8 0]) = some (List.replicate 40 0) := by decide
    obtain ⟨L, hL⟩ : ∃ L : List (List UInt8), L = [[], [97], [97, 98], [116, 101, 120, 116], [98], List.replicate 40 0] := ⟨_, rfl⟩
    have hLl : ∀ t ∈ L, t.length ≤ 60 := by rw [hL]; decide
    have hlit := lits (σ1 ++ [⟨List.replicate 40 [.int .u8 0], 1, 0, .own⟩]) L (fun t ht => by have := hLl t ht; unfold LenOk; omega)
    have p3 := Pre.app (σ1 ++ [⟨List.replicate 40 [.int .u8 0], 1, 0, .own⟩]) [(⟨L.map (fun t => [.str t]), 1, 0, .own⟩ : Row)]
    have hLn : L.length = 6 := by rw [hL]; rfl
    rw [hLn] at hlit
    obtain ⟨t, σ4, e4, m4, s4, f4⟩ := pick_eq (X := X) _ p _ L _ hlit (lits_off _ (by simp; omega)) ((s1.pre p2).pre p3) (by omega) (by rw [hLn]; decide)
    have hmem : t ∈ L := by
      rcases m4 with h | h
      · exact h
      · rw [h] at hLn; cases hLn
    refine ⟨vText t, σ4, ?_, .text t (hLl t hmem), s4.more (by omega), (f1.pre (p2.pre p3)).step f4⟩
    rw [hL] at e4
    simp only [List.map_cons, List.map_nil, List.length_append, List.length_cons, List.length_nil, Nat.zero_add] at e4
    rcases h23 with rfl | rfl
    · rw [EE, Ex_run C_spec_l00Src_value rfl]
      simp (config := {contextual := true, implicitDefEqProofs := false, maxSteps := 1000000}) only [
    ↓PR0, ↓PR1, ↓PR2, PO0, PO1, PO2, PO3, idxV_str, result, resOf, allSome, number, upd, List.map, Option.bind_some, Nat.reduceAdd, Nat.reduceSub, Nat.reduceLeDiff, Nat.reduceLT, Nat.reduceEqDiff, Nat.zero_add, Nat.add_zero, Nat.le_refl, 
    reduceIte, ne_eq, not_false_eq_true, and_self, true_and, and_true, reduceCtorEq, cond_true, cond_false, c_spec_l00Src_value, e1, n0, n1, beq_self_eq_true, c40, t40, r6, hel, hal, List.set_cons_zero, List.set_cons_succ, 
    List.length_append, e4, l01Text_eq (X := X)]
    · have n2 : ((3 : Int) == 2) = false := by decide
      rw [EE, Ex_run C_spec_l00Src_value rfl]
      simp (config := {contextual := true, implicitDefEqProofs := false, maxSteps := 1000000}) only [
    ↓PR0, ↓PR1, ↓PR2, PO0, PO1, PO2, PO3, idxV_str, result, resOf, allSome, number, upd, List.map, Option.bind_some, Nat.reduceAdd, Nat.reduceSub, Nat.reduceLeDiff, Nat.reduceLT, Nat.reduceEqDiff, Nat.zero_add, Nat.add_zero, Nat.le_refl, 
    reduceIte, ne_eq, not_false_eq_true, and_self, true_and, and_true, reduceCtorEq, cond_true, cond_false, c_spec_l00Src_value, e1, n0, n1, n2, beq_self_eq_true, c40, t40, r6, hel, hal, List.set_cons_zero, List.set_cons_succ, 
    List.length_append, e4, l01Text_eq (X := X)]
  have n2 : (k == 2) = false := by simpa using fun e => h23 (.inl e)
  have n3 : (k == 3) = false := by simpa using fun e => h23 (.inr e)
  by_cases h4 : k = 4
  · subst h4
    obtain ⟨L, hL⟩ : ∃ L : List Int, L = [2147483647, -2147483648, -1] := ⟨_, rfl⟩
    have hLl : ∀ x ∈ L, -2147483648 ≤ x ∧ x ≤ 2147483647 := by rw [hL]; decide
    have hr : RS RI 1 (σ1 ++ [⟨L.map (fun x => [int x]), 1, 0, .own⟩]) L (.sl σ1.length 0 0 L.length) :=
      ⟨_, by simpa using SlAt.new σ1 (L.map (fun x => [int x])) 1, All2.map (fun x hx => ⟨rfl, by have := hLl x hx; unfold I64; omega⟩)⟩
    have hp1 := s1.lt
    obtain ⟨k2, σ2, e2, a2, b2, s2, f2⟩ := next_eq (X := X) _ p _ 3 (s1.pre (Pre.app σ1 [(⟨L.map (fun x => [int x]), 1, 0, .own⟩ : Row)])) (by omega)
    have hr2 : RS RI 1 σ2 L (.sl σ1.length 0 0 L.length) := RS.frA (P := fun (m : Int) cs => cs = [int m] ∧ I64 m) hr f2 (lits_off σ1 hp1)
    obtain ⟨q, rfl⟩ := Int.eq_ofNat_of_zero_le a2
    have hLn : L.length = 3 := by rw [hL]; rfl
    have hq : q < L.length := by omega
    obtain ⟨cs, ⟨hc, _⟩, i1, i2, _⟩ := hr2.get (List.getElem?_eq_getElem hq)
    subst hc
    have hx := hLl L[q] (List.getElem_mem hq)
    refine ⟨vInt L[q], σ2, ?_, .int _ hx.1 hx.2, s2.more (by omega), (f1.pre (Pre.app _ _)).step f2⟩
    rw [hLn] at i1 i2
    generalize L[q] = y at *
    rw [hL] at e2
    simp only [List.map_cons, List.map_nil] at e2
    rw [EE, Ex_run C_spec_l00Src_value rfl]
    simp (config := {contextual := true, implicitDefEqProofs := false, maxSteps := 1000000}) only [
    ↓PR0, ↓PR1, ↓PR2, PO0, PO1, PO2, PO3, idxV_str, result, resOf, allSome, number, upd, List.map, Option.bind_some, Nat.reduceAdd, Nat.reduceSub, Nat.reduceLeDiff, Nat.reduceLT, Nat.reduceEqDiff, Nat.zero_add, Nat.add_zero, Nat.le_refl, 
    reduceIte, ne_eq, not_false_eq_true, and_self, true_and, and_true, reduceCtorEq, cond_true, cond_false, c_spec_l00Src_value, e1, n0, n1, n2, n3, beq_self_eq_true, List.replicate_succ, List.replicate_zero, List.set_cons_zero, 
    List.set_cons_succ, e2, i1, i2, l01Int_eq (X := X)]
  have n4 : (k == 4) = false := by simpa using h4
  obtain ⟨k2, σ2, e2, a2, b2, s2, f2⟩ := next_eq (X := X) σ1 p _ 20 s1 (by omega)
  have w : IntKind.i64.wrap (k2 - 8) = k2 - 8 := wrap64 (by omega) (by omega)
  refine ⟨vInt (k2 - 8), σ2, ?_, .int _ (by omega) (by omega), s2.more (by omega), f1.step f2⟩
  rw [EE, Ex_run C_spec_l00Src_value rfl]
  simp (config := {contextual := true, implicitDefEqProofs := false, maxSteps := 1000000}) only [
    ↓PR0, ↓PR1, ↓PR2, PO0, PO1, PO2, PO3, idxV_str, result, resOf, allSome, number, upd, List.map, Option.bind_some, Nat.reduceAdd, Nat.reduceSub, Nat.reduceLeDiff, Nat.reduceLT, Nat.reduceEqDiff, Nat.zero_add, Nat.add_zero, Nat.le_refl, 
    reduceIte, ne_eq, not_false_eq_true, and_self, true_and, and_true, reduceCtorEq, cond_true, cond_false, c_spec_l00Src_value, e1, n0, n1, n2, n3, n4, e2, w, l01Int_eq (X := X)]
theorem valueOf_eq (σ : Store) (a : AV) (bytes : List UInt8) (ha : RS RByte 1 σ bytes a) (hl : bytes.length ≤ 2000000) : ∃ v σ', EE X f_spec_ValueOf [a] σ = some (.agg v.cells, σ') ∧ OkV v ∧ Pre σ σ' := by
  obtain ⟨σ1, e1, s1, p1⟩ := source_eq (X := X) σ a bytes ha hl
  obtain ⟨v, σ2, e2, h2, s2, f2⟩ := value_eq (X := X) σ1 _ 0 s1 (by omega)
  have hld : v.cells.length = 3 := rfl
  simp only [ValueM.cells] at e2
  refine ⟨v, σ2, ?_, h2, p1.trans f2 (fun r h e => by omega)⟩
  rw [EE, Ex_run C_spec_ValueOf rfl]
  simp (config := {contextual := true, implicitDefEqProofs := false, maxSteps := 1000000}) only [
    ↓PR0, ↓PR1, ↓PR2, PO0, PO1, PO2, PO3, idxV_str, result, resOf, allSome, number, upd, List.map, Option.bind_some, Nat.reduceAdd, Nat.reduceSub, Nat.reduceLeDiff, Nat.reduceLT, Nat.reduceEqDiff, Nat.zero_add, Nat.add_zero, Nat.le_refl, 
    reduceIte, ne_eq, not_false_eq_true, and_self, true_and, and_true, reduceCtorEq, cond_true, cond_false, c_spec_ValueOf, e1, e2, ValueM.cells]
theorem binM_ok (op : List UInt8) (a b : ValueM) (ha : OkV a) (hb : OkV b) : OkV (binM op a b).1 := by
  have hf : ∀ n, OkV (fitM n).1 := by
    intro n
    simp only [fitM, inInt]
    cases h : decide (-2147483648 ≤ n) && decide (n ≤ 2147483647) with
    | false => exact .nil
    | true =>
      simp only [Bool.and_eq_true, decide_eq_true_eq] at h
      exact .int n h.1 h.2
  have har : ∀ x y, OkV (arithM op x y).1 := by
    intro x y
    simp only [arithM]
    cases op == [60] with
    | true => exact .bool _
    | false =>
      cases op == [43] with
      | true => exact hf _
      | false =>
        cases op == [45] with
        | true => exact hf _
        | false =>
          cases op == [42] with
          | true => exact hf _
          | false =>
            cases y == 0 with
            | true => exact .nil
            | false =>
              cases op == [47] && x.tmod y != 0 with
              | true => exact .nil
              | false =>
                cases op == [37] with
                | true => exact hf _
                | false => exact hf _
  have l1 := ha.len
  have l2 := hb.len
  simp only [binM]
  cases op == [61, 61] with
  | true => exact .bool _
  | false =>
    cases (a.kind == 3 && b.kind == 3) && op == [60] with
    | true => exact .bool _
    | false =>
      cases (a.kind == 3 && b.kind == 3) && op == [43] with
      | true =>
        cases h : decide ((60 : Int) < ((a.t.length + b.t.length : Nat) : Int)) with
        | true => exact .nil
        | false =>
          simp only [decide_eq_false_iff_not] at h
          exact .text _ (by rw [List.length_append]; omega)
      | false =>
        cases a.kind != 1 || b.kind != 1 with
        | true => exact .nil
        | false => exact har _ _
theorem OkV.of1 {v : ValueM} (h : OkV v) (hk : v.kind = 1) : ∃ x, v = vInt x ∧ -2147483648 ≤ x ∧ x ≤ 2147483647 := by
  cases h with
  | int n h1 h2 => exact ⟨n, rfl, h1, h2⟩
  | _ => simp at hk

end Go.X
