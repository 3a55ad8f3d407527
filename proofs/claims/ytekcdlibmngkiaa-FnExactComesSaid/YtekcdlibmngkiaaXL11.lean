/- Trees: a node that is asked for; parents. -/
import Derived.Test.YtekcdlibmngkiaaXL10
set_option linter.unusedVariables false
set_option linter.unusedSimpArgs false
set_option maxRecDepth 20000
namespace Go.X
open Go
variable {X : Call}

/-- The code of a node of a tree. -/
def placeM (m : TreeM) (k : Int) : Int := if treeOK m = true then (if (decide (0 ≤ k) && decide (k ≤ (m.nodes.length : Int) - 1)) = true then 0 else 13) else 1
theorem placeM_ok {m : TreeM} {k : Int} (h : placeM m k = 0) : RightT m ∧ 0 ≤ k ∧ k < m.nodes.length := by
  unfold placeM at h
  split at h
  · rename_i ht
    split at h
    · rename_i hd
      rw [Bool.and_eq_true, decide_eq_true_eq, decide_eq_true_eq] at hd
      exact ⟨treeOK_right ht, by omega, by omega⟩
    · omega
  · omega
theorem askedNode_eq (hX : RepX X) (σ : Store) (m : TreeM) (cs : List AV) (k : Int) (h : RTree σ m cs) (hs : m.size ≤ 1048576) : ∃ σ', EE X f_impl_askedNode [.agg cs, int k] σ = some (int (placeM m k), σ') ∧ Pre σ σ' := by
  obtain ⟨σ', h1, h2⟩ := implTreeOK_eq (X := X) hX σ m cs h hs
  obtain ⟨a, rfl, ha, hr, hl⟩ := h
  have hml : m.nodes.length ≤ 1048576 := by simp only [TreeM.size] at hs; omega
  have hwl : IntKind.i64.wrap ((m.nodes.length : Int) - 1) = (m.nodes.length : Int) - 1 := wrap64 (by omega) (by omega)
  have hc := ha.cellsOf
  have hlen := ha.len
  have w1 := fun a b c => within_eq'' (X := X) a b c σ'
  refine ⟨σ', ?_, h2⟩
  rw [EE, Ex_run C_impl_askedNode rfl]
  cases ht : treeOK m with
  | false =>
    rw [ht] at h1
    simp (config := {contextual := true, implicitDefEqProofs := false, maxSteps := 1000000}) only [
    ↓PR0, ↓PR1, ↓PR2, PO0, PO1, PO2, PO3, idxV_str, result, resOf, allSome, number, upd, List.map, Option.bind_some, Nat.reduceAdd, Nat.reduceSub, Nat.reduceLeDiff, Nat.reduceLT, Nat.reduceEqDiff, Nat.zero_add, Nat.add_zero, Nat.le_refl, 
    reduceIte, ne_eq, not_false_eq_true, and_self, true_and, and_true, reduceCtorEq, cond_true, cond_false, c_impl_askedNode, hc, h1, Bool.not_false]
    simp [placeM, ht]
  | true =>
    rw [ht] at h1
    simp (config := {contextual := true, implicitDefEqProofs := false, maxSteps := 1000000}) only [
    ↓PR0, ↓PR1, ↓PR2, PO0, PO1, PO2, PO3, idxV_str, result, resOf, allSome, number, upd, List.map, Option.bind_some, Nat.reduceAdd, Nat.reduceSub, Nat.reduceLeDiff, Nat.reduceLT, Nat.reduceEqDiff, Nat.zero_add, Nat.add_zero, Nat.le_refl, 
    reduceIte, ne_eq, not_false_eq_true, and_self, true_and, and_true, reduceCtorEq, cond_true, cond_false, c_impl_askedNode, hc, h1, Bool.not_true, hlen, hwl, w1]
    simp only [placeM, ht, if_true]
    cases (decide (0 ≤ k) && decide (k ≤ (m.nodes.length : Int) - 1)) <;> rfl
theorem l03Place_eq (σ : Store) (m : TreeM) (cs : List AV) (k : Int) (h : RTree σ m cs) (hs : m.size ≤ 1048576) : ∃ σ', EE X f_spec_l03Place [.agg cs, int k] σ = some (int (placeM m k), σ') ∧ Pre σ σ' := by
  obtain ⟨σ', h1, h2⟩ := specTreeOK_eq (X := X) σ m cs h hs
  obtain ⟨a, rfl, ha, hr, hl⟩ := h
  have hml : m.nodes.length ≤ 1048576 := by simp only [TreeM.size] at hs; omega
  have hwl : IntKind.i64.wrap ((m.nodes.length : Int) - 1) = (m.nodes.length : Int) - 1 := wrap64 (by omega) (by omega)
  have hc := ha.cellsOf
  have hlen := ha.len
  have w1 := fun a b c => l01In_eq'' (X := X) a b c σ'
  refine ⟨σ', ?_, h2⟩
  rw [EE, Ex_run C_spec_l03Place rfl]
  cases ht : treeOK m with
  | false =>
    rw [ht] at h1
    simp (config := {contextual := true, implicitDefEqProofs := false, maxSteps := 1000000}) only [
    ↓PR0, ↓PR1, ↓PR2, PO0, PO1, PO2, PO3, idxV_str, result, resOf, allSome, number, upd, List.map, Option.bind_some, Nat.reduceAdd, Nat.reduceSub, Nat.reduceLeDiff, Nat.reduceLT, Nat.reduceEqDiff, Nat.zero_add, Nat.add_zero, Nat.le_refl, 
    reduceIte, ne_eq, not_false_eq_true, and_self, true_and, and_true, reduceCtorEq, cond_true, cond_false, c_spec_l03Place, hc, h1, Bool.not_false]
    simp [placeM, ht]
  | true =>
    rw [ht] at h1
    simp (config := {contextual := true, implicitDefEqProofs := false, maxSteps := 1000000}) only [
    ↓PR0, ↓PR1, ↓PR2, PO0, PO1, PO2, PO3, idxV_str, result, resOf, allSome, number, upd, List.map, Option.bind_some, Nat.reduceAdd, Nat.reduceSub, Nat.reduceLeDiff, Nat.reduceLT, Nat.reduceEqDiff, Nat.zero_add, Nat.add_zero, Nat.le_refl, 
    reduceIte, ne_eq, not_false_eq_true, and_self, true_and, and_true, reduceCtorEq, cond_true, cond_false, c_spec_l03Place, hc, h1, Bool.not_true, hlen, hwl, w1]
    simp only [placeM, ht, if_true]
    cases (decide (0 ≤ k) && decide (k ≤ (m.nodes.length : Int) - 1)) <;> rfl

/-! ### Parents -/

theorem contI_eq (σ : Store) (l : List Int) (a : AV) (t : Int) (ha : RS RI 1 σ l a) (hn : l.length ≤ 1000000000000) : EE X f_slices_Contains_int [a, int t] σ = some (.bool (l.any (fun x => t == x)), σ) :=
  containsE (C := CC) (X := X) C_slices_Contains_int C_slices_Index_int (cmp_eql (fun a b => by rw [binV_eql])) σ l a t ha hn
theorem parent1_eq (k : Int) (q : Nat) (σ : Store) (nd : NodeM) (cs : List AV) (hq : ObjAt σ q [int k]) (h : RNode σ nd cs) (hs : nd.size ≤ 1048576) : EE X f_impl_Tree_parent_1 [.agg cs, .ptr q 0 0 0] σ = some (.bool (hasKid k nd), σ) := by
  obtain ⟨an, ak, rfl, hn, hk, ok⟩ := h
  have hc := contI_eq (X := X) σ nd.kids ak k hk (by simp only [NodeM.size] at hs; omega)
  have c1 := hn.cellsOf
  have c2 := hk.cellsOf
  have pl := fun bx => hq.place bx 0
  rw [EE, Ex_run C_impl_Tree_parent_1 rfl]
  simp (config := {contextual := true, implicitDefEqProofs := false, maxSteps := 1000000}) only [
    ↓PR0, ↓PR1, ↓PR2, PO0, PO1, PO2, PO3, idxV_str, result, resOf, allSome, number, upd, List.map, Option.bind_some, Nat.reduceAdd, Nat.reduceSub, Nat.reduceLeDiff, Nat.reduceLT, Nat.reduceEqDiff, Nat.zero_add, Nat.add_zero, Nat.le_refl, 
    reduceIte, ne_eq, not_false_eq_true, and_self, true_and, and_true, reduceCtorEq, cond_true, cond_false, c_impl_Tree_parent_1, c1, c2, pl, hc]
  rfl
theorem parM_fst (m : TreeM) (k : Int) : fstI (hasKid k) m.nodes = parM m k := rfl
def agg1 (cs : List AV) : AV := .agg cs
theorem parent_eq (σ : Store) (m : TreeM) (a : AV) (r : Nat) (k : Int) (h : RTree σ m [a, int m.root]) (hs : m.size ≤ 1048576) (hr : ObjAt σ r [a, int m.root]) : ∃ σ', EE X f_impl_Tree_parent [.ptr r 0 0 0, int k] σ = some (int (parM m k), σ') ∧ Pre σ σ' := by
  have hml : m.nodes.length ≤ 1048576 := by simp only [TreeM.size] at hs; omega
  have o1 := ObjAt.new σ [int k]
  have p1 := Pre.app σ [(⟨[[int k]], 1, 0, .own⟩ : Row)]
  have h1 := RTree.mono.pre h p1
  obtain ⟨a', hc, hsl, _⟩ := h1
  cases hc
  obtain ⟨els, e1, e2⟩ := hsl
  have hB : RS (fun σ m cs => RNode σ m cs ∧ m.size ≤ 1048576) 5 (σ ++ [(⟨[[int k]], 1, 0, .own⟩ : Row)]) m.nodes a := ⟨els, e1, e2.imp_mem (fun x cs hx h => ⟨h, by have := sumS_mem (size := NodeM.size) hx; simp only [TreeM.size] at hs; omega⟩)⟩
  obtain ⟨σ', g1, g2⟩ := indexF (C := CC) (X := X) (fS := f_slices_IndexFunc_impl_Node) (fv := f_impl_Tree_parent_1) (P := fun σ m cs => RNode σ m cs ∧ m.size ≤ 1048576) (ag := true) (sz := 5) (val := agg1) (p := hasKid k) (caps := [.ptr σ.length 0 0 0]) (Q := fun s => ObjAt s σ.length [int k]) C_slices_IndexFunc_impl_Node
    (fun σ ext m cs h => ⟨RNode.mono _ _ _ _ h.1, h.2⟩) (fun σ m cs h => ld_all (RNode.sized _ _ _ h.1)) (fun σ σ' h p => h.pre p) m.nodes a
    (fun s nd cs _ hq h => ⟨s, parent1_eq (X := X) k σ.length s nd cs hq h.1 h.2, Fr.refl _ _⟩) (by omega) _ hB o1
  rw [parM_fst] at g1
  have pl := fun bx => (hr.pre p1).place bx 0
  refine ⟨σ', ?_, p1.pre g2⟩
  rw [EE, Ex_run C_impl_Tree_parent rfl]
  simp (config := {contextual := true, implicitDefEqProofs := false, maxSteps := 1000000}) only [
    ↓PR0, ↓PR1, ↓PR2, PO0, PO1, PO2, PO3, idxV_str, result, resOf, allSome, number, upd, List.map, Option.bind_some, Nat.reduceAdd, Nat.reduceSub, Nat.reduceLeDiff, Nat.reduceLT, Nat.reduceEqDiff, Nat.zero_add, Nat.add_zero, Nat.le_refl, 
    reduceIte, ne_eq, not_false_eq_true, and_self, true_and, and_true, reduceCtorEq, cond_true, cond_false, c_impl_Tree_parent, pl, g1]
theorem l03Parent_loop0 {R : Type} {τ σ : Store} {m : TreeM} {a : AV} (hT : RTree τ m [a, int m.root]) (hp : Pre τ σ) (hs : m.size ≤ 1048576) (k : Int) {i : Nat} {nd : NodeM} (hi : m.nodes[i]? = some nd) (kk : Out → S → Option R) : ∀ d j, j + d = nd.kids.length →
    loopK (EE X) [1, 2, 5, 6] l_spec_l03Parent_0 ([(1, .v (int k)), (2, .lp 2 0), (5, .v (int i)), (6, .v (int j))], ⟨[(2, [a, int m.root])], σ⟩) kk =
      br ((nd.kids.drop j).any (fun c => k == c)) (kk .ret ([(4, .v (int i))], ⟨[], σ⟩)) (kk (.exit 2) ([(1, .v (int k)), (2, .lp 2 0), (5, .v (int i)), (6, .v (int nd.kids.length)), (22, .v (.bool false))], ⟨[(2, [a, int m.root])], σ⟩)) := by
  obtain ⟨an, ak, hrn, _, hak, hn⟩ := hT.node hi
  obtain ⟨n1, n2, n3, n4⟩ := hn σ hp
  have hak' := hak.pre (RP.mono _ _) hp
  have hkl : nd.kids.length ≤ 1048576 := by have := NodeM.size_le hi hs; simp only [NodeM.size] at this; omega
  have klen := hak'.len
  intro d
  induction d with
  | zero =>
    intro j hj
    have e : j = nd.kids.length := by omega
    subst e
    rw [loopK_step l_spec_l03Parent_0.eq_1, List.drop_length]
    simp (config := {contextual := true, implicitDefEqProofs := false, maxSteps := 1000000}) only [
    ↓PR0, ↓PR1, ↓PR2, PO0, PO1, PO2, PO3, idxV_str, result, resOf, allSome, number, upd, List.map, Option.bind_some, Nat.reduceAdd, Nat.reduceSub, Nat.reduceLeDiff, Nat.reduceLT, Nat.reduceEqDiff, Nat.zero_add, Nat.add_zero, Nat.le_refl, 
    reduceIte, ne_eq, not_false_eq_true, and_self, true_and, and_true, reduceCtorEq, cond_true, cond_false, n1, n2, n3, n4, klen, Int.lt_irrefl, decide_false, List.any_nil]
  | succ d ih =>
    intro j hj
    have hlt : j < nd.kids.length := by omega
    have hlt' : (j : Int) < (nd.kids.length : Int) := by omega
    have hw : IntKind.i64.wrap ((j : Int) + 1) = ((j + 1 : Nat) : Int) := wrap64 (by omega) (by omega)
    obtain ⟨c1, ⟨hp', _⟩, ha1, ha2, _⟩ := hak'.get (List.getElem?_eq_getElem hlt)
    subst hp'
    have ih' := ih (j + 1) (by omega)
    have hbe : (nd.kids[j] == k) = (k == nd.kids[j]) := Bool.beq_comm
    rw [loopK_step l_spec_l03Parent_0.eq_1, List.drop_eq_getElem_cons hlt, List.any_cons]
    cases hb : k == nd.kids[j] with
    | true => simp (config := {contextual := true, implicitDefEqProofs := false, maxSteps := 1000000}) only [
    ↓PR0, ↓PR1, ↓PR2, PO0, PO1, PO2, PO3, idxV_str, result, resOf, allSome, number, upd, List.map, Option.bind_some, Nat.reduceAdd, Nat.reduceSub, Nat.reduceLeDiff, Nat.reduceLT, Nat.reduceEqDiff, Nat.zero_add, Nat.add_zero, Nat.le_refl, 
    reduceIte, ne_eq, not_false_eq_true, and_self, true_and, and_true, reduceCtorEq, cond_true, cond_false, n1, n2, n3, n4, klen, hlt', decide_true, ha1, ha2, hbe, hb, Bool.true_or]
    | false => simp (config := {contextual := true, implicitDefEqProofs := false, maxSteps := 1000000}) only [
    ↓PR0, ↓PR1, ↓PR2, PO0, PO1, PO2, PO3, idxV_str, result, resOf, allSome, number, upd, List.map, Option.bind_some, Nat.reduceAdd, Nat.reduceSub, Nat.reduceLeDiff, Nat.reduceLT, Nat.reduceEqDiff, Nat.zero_add, Nat.add_zero, Nat.le_refl, 
    reduceIte, ne_eq, not_false_eq_true, and_self, true_and, and_true, reduceCtorEq, cond_true, cond_false, n1, n2, n3, n4, klen, hlt', decide_true, ha1, ha2, hbe, hb, Bool.false_or, hw, ih']
theorem l03Parent_loop1 {R : Type} {τ σ : Store} {m : TreeM} {a : AV} (hT : RTree τ m [a, int m.root]) (hp : Pre τ σ) (hs : m.size ≤ 1048576) (k : Int) (kk : Out → S → Option R) : ∀ d i, i + d = m.nodes.length →
    loopK (EE X) [1, 2, 5] l_spec_l03Parent_1 ([(1, .v (int k)), (2, .lp 2 0), (5, .v (int i))], ⟨[(2, [a, int m.root])], σ⟩) kk =
      if fstI (hasKid k) (m.nodes.drop i) < 0 then kk (.exit 0) ([(1, .v (int k)), (2, .lp 2 0), (5, .v (int m.nodes.length)), (11, .v (.bool false))], ⟨[(2, [a, int m.root])], σ⟩) else kk .ret ([(4, .v (int (fstI (hasKid k) (m.nodes.drop i) + i)))], ⟨[], σ⟩) := by
  have hml : m.nodes.length ≤ 1048576 := by simp only [TreeM.size] at hs; omega
  obtain ⟨tl, tc⟩ := hT.len
  intro d
  induction d with
  | zero =>
    intro i hi
    have e : i = m.nodes.length := by omega
    subst e
    rw [loopK_step l_spec_l03Parent_1.eq_1, List.drop_length, fstI_nil, if_pos (by decide)]
    simp (config := {contextual := true, implicitDefEqProofs := false, maxSteps := 1000000}) only [
    ↓PR0, ↓PR1, ↓PR2, PO0, PO1, PO2, PO3, idxV_str, result, resOf, allSome, number, upd, List.map, Option.bind_some, Nat.reduceAdd, Nat.reduceSub, Nat.reduceLeDiff, Nat.reduceLT, Nat.reduceEqDiff, Nat.zero_add, Nat.add_zero, Nat.le_refl, 
    reduceIte, ne_eq, not_false_eq_true, and_self, true_and, and_true, reduceCtorEq, cond_true, cond_false, tl, Int.lt_irrefl, decide_false]
  | succ d ih =>
    intro i hi
    have hlt : i < m.nodes.length := by omega
    have hlt' : (i : Int) < (m.nodes.length : Int) := by omega
    have hw : IntKind.i64.wrap ((i : Int) + 1) = ((i + 1 : Nat) : Int) := wrap64 (by omega) (by omega)
    have ih' := ih (i + 1) (by omega)
    have inner := fun kk => l03Parent_loop0 (X := X) (R := R) hT hp hs k (List.getElem?_eq_getElem hlt) kk m.nodes[i].kids.length 0 (by omega)
    simp only [Int.cast_ofNat_Int, List.drop_zero] at inner
    have hh : (m.nodes[i].kids.any (fun c => k == c)) = hasKid k m.nodes[i] := rfl
    cases hb : hasKid k m.nodes[i] with
    | true =>
      have e : fstI (hasKid k) (m.nodes.drop i) = 0 := by rw [List.drop_eq_getElem_cons hlt, fstI_cons, if_pos hb]
      rw [loopK_step l_spec_l03Parent_1.eq_1, e, if_neg (by decide), Int.zero_add]
      simp (config := {contextual := true, implicitDefEqProofs := false, maxSteps := 1000000}) only [
    ↓PR0, ↓PR1, ↓PR2, PO0, PO1, PO2, PO3, idxV_str, result, resOf, allSome, number, upd, List.map, Option.bind_some, Nat.reduceAdd, Nat.reduceSub, Nat.reduceLeDiff, Nat.reduceLT, Nat.reduceEqDiff, Nat.zero_add, Nat.add_zero, Nat.le_refl, 
    reduceIte, ne_eq, not_false_eq_true, and_self, true_and, and_true, reduceCtorEq, cond_true, cond_false, tl, hlt', decide_true, inner, hh, hb]
    | false =>
      have e : fstI (hasKid k) (m.nodes.drop i) = if fstI (hasKid k) (m.nodes.drop (i + 1)) < 0 then -1 else fstI (hasKid k) (m.nodes.drop (i + 1)) + 1 := by rw [List.drop_eq_getElem_cons hlt, fstI_cons, if_neg (by rw [hb]; decide)]
      rw [loopK_step l_spec_l03Parent_1.eq_1, e]
      simp (config := {contextual := true, implicitDefEqProofs := false, maxSteps := 1000000}) only [
    ↓PR0, ↓PR1, ↓PR2, PO0, PO1, PO2, PO3, idxV_str, result, resOf, allSome, number, upd, List.map, Option.bind_some, Nat.reduceAdd, Nat.reduceSub, Nat.reduceLeDiff, Nat.reduceLT, Nat.reduceEqDiff, Nat.zero_add, Nat.add_zero, Nat.le_refl, 
    reduceIte, ne_eq, not_false_eq_true, and_self, true_and, and_true, reduceCtorEq, cond_true, cond_false, tl, hlt', decide_true, inner, hh, hb, hw, ih']
      by_cases hneg : fstI (hasKid k) (m.nodes.drop (i + 1)) < 0
      · rw [if_pos hneg, if_pos hneg, if_pos (by decide)]
      · rw [if_neg hneg, if_neg hneg, if_neg (by omega)]
        have e2 : fstI (hasKid k) (m.nodes.drop (i + 1)) + ((i + 1 : Nat) : Int) = fstI (hasKid k) (m.nodes.drop (i + 1)) + 1 + (i : Int) := by omega
        rw [e2]
theorem l03Parent_eq {τ σ : Store} {m : TreeM} {a : AV} (hT : RTree τ m [a, int m.root]) (hp : Pre τ σ) (hs : m.size ≤ 1048576) (k : Int) : EE X f_spec_l03Parent [.agg [a, int m.root], int k] σ = some (int (parM m k), σ) := by
  have h := fun kk => l03Parent_loop1 (X := X) (R := AV × Store) hT hp hs k kk m.nodes.length 0 (by omega)
  simp only [Int.cast_ofNat_Int, List.drop_zero, Int.add_zero, parM_fst] at h
  obtain ⟨tl, tc⟩ := hT.len
  rw [EE, Ex_run C_spec_l03Parent rfl]
  by_cases hneg : parM m k < 0
  · have e : parM m k = -1 := by rcases fstI_ge (hasKid k) m.nodes with h1 | h1 <;> rw [parM_fst] at h1 <;> omega
    simp only [if_pos hneg] at h
    simp (config := {contextual := true, implicitDefEqProofs := false, maxSteps := 1000000}) only [
    ↓PR0, ↓PR1, ↓PR2, PO0, PO1, PO2, PO3, idxV_str, result, resOf, allSome, number, upd, List.map, Option.bind_some, Nat.reduceAdd, Nat.reduceSub, Nat.reduceLeDiff, Nat.reduceLT, Nat.reduceEqDiff, Nat.zero_add, Nat.add_zero, Nat.le_refl, 
    reduceIte, ne_eq, not_false_eq_true, and_self, true_and, and_true, reduceCtorEq, cond_true, cond_false, c_spec_l03Parent, tc, h, e]
  · simp only [if_neg hneg] at h
    simp (config := {contextual := true, implicitDefEqProofs := false, maxSteps := 1000000}) only [
    ↓PR0, ↓PR1, ↓PR2, PO0, PO1, PO2, PO3, idxV_str, result, resOf, allSome, number, upd, List.map, Option.bind_some, Nat.reduceAdd, Nat.reduceSub, Nat.reduceLeDiff, Nat.reduceLT, Nat.reduceEqDiff, Nat.zero_add, Nat.add_zero, Nat.le_refl, 
    reduceIte, ne_eq, not_false_eq_true, and_self, true_and, and_true, reduceCtorEq, cond_true, cond_false, c_spec_l03Parent, tc, h]
end Go.X
