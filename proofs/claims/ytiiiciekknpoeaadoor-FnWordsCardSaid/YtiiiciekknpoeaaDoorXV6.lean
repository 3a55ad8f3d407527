/- Values: the law of texts. -/
import Derived.Test.YtiiiciekknpoeaaDoorXV5
set_option linter.unusedVariables false
set_option linter.unusedSimpArgs false
set_option maxRecDepth 20000
namespace Go.X
open Go
variable {X : Call}

abbrev z3 : List AV := [.int .i64 0, .int .i64 0, .str []]
/-- The kinds of a builtin's arguments, written out. -/
theorem ilits (σ : Store) (l : List Int) (h : ∀ x ∈ l, I64 x) : RS RI 1 (σ ++ [⟨l.map (fun x => [int x]), 1, 0, .own⟩]) l (.sl σ.length 0 0 l.length) :=
  ⟨_, by simpa using SlAt.new σ (l.map (fun x => [int x])) 1, All2.map (fun x hx => ⟨rfl, h x hx⟩)⟩

theorem builtin_len (σ : Store) (a : AV) (v : ValueM) (ha : RS RValue 3 σ [v] a) : ∃ σ', EE X f_impl_builtin [.str nLen, a] σ = some (.tup [.agg (bif v.kind != 3 then vNil else vInt v.t.length).cells, int (bif v.kind != 3 then 8 else 0)], σ') ∧ Pre σ σ' := by
  refine ⟨_, ?_, Pre.app σ [(⟨[[int 3]], 1, 0, .own⟩ : Row)]⟩
  have hk : RS RI 1 (σ ++ [⟨[[int 3]], 1, 0, .own⟩]) [3] (.sl σ.length 0 0 1) := ilits σ [3] (by intro x hx; simp at hx; subst hx; unfold I64; decide)
  obtain ⟨_, ⟨e0, _⟩, k0, kp0, _⟩ := hk.get (i := 0) rfl
  subst e0
  obtain ⟨_, ⟨e0, _⟩, i0, p0, f0, q0⟩ := (ha.mono RValue.mono [(⟨[[int 3]], 1, 0, .own⟩ : Row)]).get (i := 0) rfl
  subst e0
  simp only [Int.cast_ofNat_Int] at k0 i0
  have hle := hk.len
  simp only [List.length_cons, List.length_nil, Nat.zero_add, Int.cast_ofNat_Int] at hle
  have c0 : (0 : Int) < 1 := by decide
  have c1 : ¬ (1 : Int) < 1 := by decide
  have g0 : (0 : Int) ≤ 3 := by decide
  have w1 : IntKind.i64.wrap (0 + 1) = 1 := by decide
  have hld : ld true 3 0 v.cells = some (.agg v.cells) := ld_all rfl
  have st : ∀ (i : Int) (kk : Out → S → Option (AV × Store)), loopK (EE X) [0, 1, 4, 18, 19, 20] l_impl_builtin_0 ([(0, .v (.str nLen)), (1, .v a), (4, .lp 4 0), (18, .v (.sl σ.length 0 0 1)), (19, .v (int 1)), (20, .v (int i))], ⟨[(4, z3)], σ ++ [⟨[[int 3]], 1, 0, .own⟩]⟩) kk = runK (EE X) (_) ([(0, .v (.str nLen)), (1, .v a), (4, .lp 4 0), (18, .v (.sl σ.length 0 0 1)), (19, .v (int 1)), (20, .v (int i))], ⟨[(4, z3)], σ ++ [⟨[[int 3]], 1, 0, .own⟩]⟩) (lpK (EE X) [0, 1, 4, 18, 19, 20] l_impl_builtin_0 kk) := fun i kk => loopK_step l_impl_builtin_0.eq_1 _ _ _ _
  have kl := kinds_len (X := X) σ
  cases hv : v.kind != 3 with
  | true =>
    rw [EE, Ex_run C_impl_builtin rfl]
    simp (config := {contextual := true, implicitDefEqProofs := false, maxSteps := 1000000}) only [
    ↓PR0, ↓PR1, ↓PR2, PO0, PO1, PO2, PO3, idxV_str, result, resOf, allSome, number, upd, List.map, Option.bind_some, Nat.reduceAdd, Nat.reduceSub, Nat.reduceLeDiff, Nat.reduceLT, Nat.reduceEqDiff, Nat.zero_add, Nat.add_zero, Nat.le_refl, 
    reduceIte, ne_eq, not_false_eq_true, and_self, true_and, and_true, reduceCtorEq, cond_true, cond_false, c_impl_builtin, kl, hle, ↓st, c0, c1, g0, w1, decide_true, decide_false, k0, kp0, i0, p0, f0, q0, ValueM.cells, hv]
  | false =>
    rw [EE, Ex_run C_impl_builtin rfl]
    simp (config := {contextual := true, implicitDefEqProofs := false, maxSteps := 1000000}) only [
    ↓PR0, ↓PR1, ↓PR2, PO0, PO1, PO2, PO3, idxV_str, result, resOf, allSome, number, upd, List.map, Option.bind_some, Nat.reduceAdd, Nat.reduceSub, Nat.reduceLeDiff, Nat.reduceLT, Nat.reduceEqDiff, Nat.zero_add, Nat.add_zero, Nat.le_refl, 
    reduceIte, ne_eq, not_false_eq_true, and_self, true_and, and_true, reduceCtorEq, cond_true, cond_false, c_impl_builtin, kl, hle, ↓st, c0, c1, g0, w1, decide_true, decide_false, k0, kp0, i0, p0, f0, q0, hld, ValueM.cells, hv, 
    beq_self_eq_true, ofInt_eq (X := X)]

theorem builtin_cut (σ : Store) (a : AV) (t : List UInt8) (p q : Nat) (ha : RS RValue 3 σ [vText t, vInt p, vInt q] a) (h1 : p ≤ q) (h2 : q ≤ t.length) : ∃ σ', EE X f_impl_builtin [.str nCut, a] σ = some (.tup [.agg (vText ((t.drop p).take (q - p))).cells, int 0], σ') ∧ Pre σ σ' := by
  refine ⟨_, ?_, Pre.app σ [(⟨[[int 3], [int 1], [int 1]], 1, 0, .own⟩ : Row)]⟩
  have hk : RS RI 1 (σ ++ [⟨[[int 3], [int 1], [int 1]], 1, 0, .own⟩]) [3, 1, 1] (.sl σ.length 0 0 3) := ilits σ [3, 1, 1] (by intro x hx; simp at hx; rcases hx with rfl | rfl <;> (unfold I64; decide))
  have ha' := ha.mono RValue.mono [(⟨[[int 3], [int 1], [int 1]], 1, 0, .own⟩ : Row)]
  obtain ⟨_, ⟨e0, _⟩, k0, kp0, _⟩ := hk.get (i := 0) rfl
  subst e0
  obtain ⟨_, ⟨e0, _⟩, k1, kp1, _⟩ := hk.get (i := 1) rfl
  subst e0
  obtain ⟨_, ⟨e0, _⟩, k2, kp2, _⟩ := hk.get (i := 2) rfl
  subst e0
  obtain ⟨_, ⟨e0, _⟩, i0, p0, f0, q0⟩ := ha'.get (i := 0) rfl
  subst e0
  obtain ⟨_, ⟨e0, _⟩, i1, p1, f1, q1⟩ := ha'.get (i := 1) rfl
  subst e0
  obtain ⟨_, ⟨e0, _⟩, i2, p2, f2, q2⟩ := ha'.get (i := 2) rfl
  subst e0
  simp only [Int.cast_ofNat_Int] at k0 i0 k1 i1 k2 i2
  have hle := hk.len
  simp only [List.length_cons, List.length_nil, Nat.zero_add, Nat.reduceAdd, Int.cast_ofNat_Int] at hle
  have c0 : (0 : Int) < 3 := by decide
  have c1 : (1 : Int) < 3 := by decide
  have c2 : (2 : Int) < 3 := by decide
  have c3 : ¬ (3 : Int) < 3 := by decide
  have g0 : (0 : Int) ≤ 3 := by decide
  have g1 : (0 : Int) ≤ 1 := by decide
  have w1 : IntKind.i64.wrap (0 + 1) = 1 := by decide
  have w2 : IntKind.i64.wrap (1 + 1) = 2 := by decide
  have w3 : IntKind.i64.wrap (2 + 1) = 3 := by decide
  have hld : ld true 3 0 (vText t).cells = some (.agg (vText t).cells) := ld_all rfl
  have b1 : (nCut == [108, 101, 110]) = false := by decide
  have b2 : (nCut == [115, 116, 114]) = false := by decide
  have b3 : (nCut == [97, 98, 115]) = false := by decide
  have b4 : (nCut == [97, 116]) = false := by decide
  have b5 : (nCut == [109, 97, 120]) = false := by decide
  have b6 : (nCut == [109, 105, 110]) = false := by decide
  have d1 : (decide ((0 : Int) ≤ (p : Int)) && decide ((p : Int) ≤ (t.length : Int))) = true := by rw [Bool.and_eq_true, decide_eq_true_eq, decide_eq_true_eq]; omega
  have d2 : (decide ((p : Int) ≤ (q : Int)) && decide ((q : Int) ≤ (t.length : Int))) = true := by rw [Bool.and_eq_true, decide_eq_true_eq, decide_eq_true_eq]; omega
  have wi := fun a b c => within_eq' (X := X) a b c (σ ++ [⟨[[int 3], [int 1], [int 1]], 1, 0, .own⟩])
  have hs : (0 : Int) ≤ (p : Int) ∧ (p : Int) ≤ (q : Int) ∧ (q : Int) ≤ (t.length : Int) := by omega
  have hs4 : (p : Int) ≤ (t.length : Int) := by omega
  have st : ∀ (i : Int) (kk : Out → S → Option (AV × Store)), loopK (EE X) [0, 1, 4, 18, 19, 20] l_impl_builtin_0 ([(0, .v (.str nCut)), (1, .v a), (4, .lp 4 0), (18, .v (.sl σ.length 0 0 3)), (19, .v (int 3)), (20, .v (int i))], ⟨[(4, z3)], σ ++ [⟨[[int 3], [int 1], [int 1]], 1, 0, .own⟩]⟩) kk = runK (EE X) (_) ([(0, .v (.str nCut)), (1, .v a), (4, .lp 4 0), (18, .v (.sl σ.length 0 0 3)), (19, .v (int 3)), (20, .v (int i))], ⟨[(4, z3)], σ ++ [⟨[[int 3], [int 1], [int 1]], 1, 0, .own⟩]⟩) (lpK (EE X) [0, 1, 4, 18, 19, 20] l_impl_builtin_0 kk) := fun i kk => loopK_step l_impl_builtin_0.eq_1 _ _ _ _
  have kl := kinds_cut (X := X) σ
  rw [EE, Ex_run C_impl_builtin rfl]
  simp (config := {contextual := true, implicitDefEqProofs := false, maxSteps := 1000000}) only [
    ↓PR0, ↓PR1, ↓PR2, PO0, PO1, PO2, PO3, idxV_str, result, resOf, allSome, number, upd, List.map, Option.bind_some, Nat.reduceAdd, Nat.reduceSub, Nat.reduceLeDiff, Nat.reduceLT, Nat.reduceEqDiff, Nat.zero_add, Nat.add_zero, Nat.le_refl, 
    reduceIte, ne_eq, not_false_eq_true, and_self, true_and, and_true, reduceCtorEq, cond_true, cond_false, c_impl_builtin, kl, hle, ↓st, c0, c1, c2, c3, g0, g1, w1, w2, w3, decide_true, decide_false, k0, kp0, k1, kp1, k2, kp2, i0, p0, f0, 
    q0, i1, p1, f1, q1, i2, p2, f2, q2, hld, ValueM.cells, bne_self_eq_false, b1, b2, b3, b4, b5, b6, wi, Bool.not_true, hs, hs4, Bool.and_self, Int.toNat_natCast, ofText_eq (X := X)]

theorem builtin_at (σ : Store) (a : AV) (t : List UInt8) (ha : RS RValue 3 σ [vText t, vInt t.length] a) (ht : t.length ≤ 60) : ∃ σ', EE X f_impl_builtin [.str nAt, a] σ = some (.tup [.agg vNil.cells, int 4], σ') ∧ Pre σ σ' := by
  refine ⟨_, ?_, Pre.app σ [(⟨[[int 3], [int 1]], 1, 0, .own⟩ : Row)]⟩
  have hk : RS RI 1 (σ ++ [⟨[[int 3], [int 1]], 1, 0, .own⟩]) [3, 1] (.sl σ.length 0 0 2) := ilits σ [3, 1] (by intro x hx; simp at hx; rcases hx with rfl | rfl <;> (unfold I64; decide))
  have ha' := ha.mono RValue.mono [(⟨[[int 3], [int 1]], 1, 0, .own⟩ : Row)]
  obtain ⟨_, ⟨e0, _⟩, k0, kp0, _⟩ := hk.get (i := 0) rfl
  subst e0
  obtain ⟨_, ⟨e0, _⟩, k1, kp1, _⟩ := hk.get (i := 1) rfl
  subst e0
  obtain ⟨_, ⟨e0, _⟩, i0, p0, f0, q0⟩ := ha'.get (i := 0) rfl
  subst e0
  obtain ⟨_, ⟨e0, _⟩, i1, p1, f1, q1⟩ := ha'.get (i := 1) rfl
  subst e0
  simp only [Int.cast_ofNat_Int] at k0 i0 k1 i1
  have hle := hk.len
  simp only [List.length_cons, List.length_nil, Nat.zero_add, Nat.reduceAdd, Int.cast_ofNat_Int] at hle
  have c0 : (0 : Int) < 2 := by decide
  have c1 : (1 : Int) < 2 := by decide
  have c2 : ¬ (2 : Int) < 2 := by decide
  have g0 : (0 : Int) ≤ 3 := by decide
  have g1 : (0 : Int) ≤ 1 := by decide
  have w1 : IntKind.i64.wrap (0 + 1) = 1 := by decide
  have w2 : IntKind.i64.wrap (1 + 1) = 2 := by decide
  have wl : IntKind.i64.wrap ((t.length : Int) - 1) = (t.length : Int) - 1 := wrap64 (by omega) (by omega)
  have hld : ld true 3 0 (vText t).cells = some (.agg (vText t).cells) := ld_all rfl
  have b1 : (nAt == [108, 101, 110]) = false := by decide
  have b2 : (nAt == [115, 116, 114]) = false := by decide
  have b3 : (nAt == [97, 98, 115]) = false := by decide
  have b5 : (nAt == [109, 97, 120]) = false := by decide
  have b6 : (nAt == [109, 105, 110]) = false := by decide
  have d1 : (decide ((0 : Int) ≤ (t.length : Int)) && decide ((t.length : Int) ≤ (t.length : Int) - 1)) = false := by rw [Bool.and_eq_false_iff, decide_eq_false_iff_not, decide_eq_false_iff_not]; omega
  have wi := fun a b c => within_eq' (X := X) a b c (σ ++ [⟨[[int 3], [int 1]], 1, 0, .own⟩])
  have st : ∀ (i : Int) (kk : Out → S → Option (AV × Store)), loopK (EE X) [0, 1, 4, 18, 19, 20] l_impl_builtin_0 ([(0, .v (.str nAt)), (1, .v a), (4, .lp 4 0), (18, .v (.sl σ.length 0 0 2)), (19, .v (int 2)), (20, .v (int i))], ⟨[(4, z3)], σ ++ [⟨[[int 3], [int 1]], 1, 0, .own⟩]⟩) kk = runK (EE X) (_) ([(0, .v (.str nAt)), (1, .v a), (4, .lp 4 0), (18, .v (.sl σ.length 0 0 2)), (19, .v (int 2)), (20, .v (int i))], ⟨[(4, z3)], σ ++ [⟨[[int 3], [int 1]], 1, 0, .own⟩]⟩) (lpK (EE X) [0, 1, 4, 18, 19, 20] l_impl_builtin_0 kk) := fun i kk => loopK_step l_impl_builtin_0.eq_1 _ _ _ _
  have kl := kinds_at (X := X) σ
  rw [EE, Ex_run C_impl_builtin rfl]
  simp (config := {contextual := true, implicitDefEqProofs := false, maxSteps := 1000000}) only [
    ↓PR0, ↓PR1, ↓PR2, PO0, PO1, PO2, PO3, idxV_str, result, resOf, allSome, number, upd, List.map, Option.bind_some, Nat.reduceAdd, Nat.reduceSub, Nat.reduceLeDiff, Nat.reduceLT, Nat.reduceEqDiff, Nat.zero_add, Nat.add_zero, Nat.le_refl, 
    reduceIte, ne_eq, not_false_eq_true, and_self, true_and, and_true, reduceCtorEq, cond_true, cond_false, c_impl_builtin, kl, hle, ↓st, c0, c1, c2, g0, g1, w1, w2, decide_true, decide_false, k0, kp0, k1, kp1, i0, p0, f0, q0, i1, p1, f1, 
    q1, hld, ValueM.cells, bne_self_eq_false, b1, b2, b3, b5, b6, beq_self_eq_true, wl, wi, d1, Bool.not_false]

/-- Builtins of right arguments, as many as there are kinds. -/
theorem Builtin_of (σ σ1 : Store) (name : List UInt8) (a ak : AV) (l : List ValueM) (n : Nat) (hn : name.length ≤ 3) (ha : RS RValue 3 σ l a) (hok : ∀ v ∈ l, OkV v) (hl : l.length = n) (h3 : n ≤ 3)
    (hk : EE X f_impl_builtinKinds [.str name] σ = some (.tup [ak, .bool true], σ1)) (hkl : lenV false ak = some (int n)) (hp : Pre σ σ1) {r : ValueM} {c : Int} (hb : ∃ σ', EE X f_impl_builtin [.str name, a] σ1 = some (.tup [.agg r.cells, int c], σ') ∧ Pre σ1 σ') :
    ∃ σ', EE X f_impl_Builtin [.str name, a] σ = some (.tup [.agg r.cells, int c], σ') ∧ Pre σ σ' := by
  obtain ⟨σ2, e2, p2⟩ := hb
  have ha1 := ha.pre RValue.mono hp
  have hv := valuesOK_eq (X := X) σ1 l a ha1 hok (by omega)
  have hle := ha.len
  rw [hl] at hle
  have c1 : ¬ ((65536 : Int) < (name.length : Int)) := by omega
  have c2 : ¬ ((4096 : Int) < (n : Int)) := by omega
  simp only [ValueM.cells] at e2
  refine ⟨σ2, ?_, hp.pre p2⟩
  rw [EE, Ex_run C_impl_Builtin rfl]
  simp (config := {contextual := true, implicitDefEqProofs := false, maxSteps := 1000000}) only [
    ↓PR0, ↓PR1, ↓PR2, PO0, PO1, PO2, PO3, idxV_str, result, resOf, allSome, number, upd, List.map, Option.bind_some, Nat.reduceAdd, Nat.reduceSub, Nat.reduceLeDiff, Nat.reduceLT, Nat.reduceEqDiff, Nat.zero_add, Nat.add_zero, Nat.le_refl, 
    reduceIte, ne_eq, not_false_eq_true, and_self, true_and, and_true, reduceCtorEq, cond_true, cond_false, c_impl_Builtin, hk, c1, c2, decide_false, hle, hkl, hv, Bool.not_true, bne_self_eq_false, ValueM.cells, e2]

theorem Builtin_len (σ : Store) (a : AV) (v : ValueM) (ha : RS RValue 3 σ [v] a) (hv : OkV v) : ∃ σ', EE X f_impl_Builtin [.str nLen, a] σ = some (.tup [.agg (bif v.kind != 3 then vNil else vInt v.t.length).cells, int (bif v.kind != 3 then 8 else 0)], σ') ∧ Pre σ σ' :=
  Builtin_of σ _ nLen a _ [v] 1 (by decide) ha (by intro x hx; simp at hx; subst hx; exact hv) rfl (by omega) (kinds_len σ) rfl (Pre.app _ _) (builtin_len _ a v (ha.mono RValue.mono _))
theorem Builtin_cut (σ : Store) (a : AV) (t : List UInt8) (p q : Nat) (ha : RS RValue 3 σ [vText t, vInt p, vInt q] a) (h1 : p ≤ q) (h2 : q ≤ t.length) (ht : t.length ≤ 60) : ∃ σ', EE X f_impl_Builtin [.str nCut, a] σ = some (.tup [.agg (vText ((t.drop p).take (q - p))).cells, int 0], σ') ∧ Pre σ σ' :=
  Builtin_of σ _ nCut a _ _ 3 (by decide) ha (by
    intro x hx; simp at hx
    rcases hx with rfl | rfl | rfl
    · exact .text t ht
    · exact .int _ (by omega) (by omega)
    · exact .int _ (by omega) (by omega)) rfl (by omega) (kinds_cut σ) rfl (Pre.app _ _) (builtin_cut _ a t p q (ha.mono RValue.mono _) h1 h2)
theorem Builtin_at (σ : Store) (a : AV) (t : List UInt8) (ha : RS RValue 3 σ [vText t, vInt t.length] a) (ht : t.length ≤ 60) : ∃ σ', EE X f_impl_Builtin [.str nAt, a] σ = some (.tup [.agg vNil.cells, int 4], σ') ∧ Pre σ σ' :=
  Builtin_of σ _ nAt a _ _ 2 (by decide) ha (by
    intro x hx; simp at hx
    rcases hx with rfl | rfl
    · exact .text t ht
    · exact .int _ (by omega) (by omega)) rfl (by omega) (kinds_at σ) rfl (Pre.app _ _) (builtin_at _ a t (ha.mono RValue.mono _) ht)
end Go.X
