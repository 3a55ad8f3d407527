/- Trees: nodes and trees as lists; their sizes, copies and comparisons. -/
import Derived.Test.YtfifhpmcbfeadaaGreatDoorXE
import Derived.Test.YtfifhpmcbfeadaaGreatDoorY6
set_option linter.unusedVariables false
set_option linter.unusedSimpArgs false
set_option maxRecDepth 20000
namespace Go.X
open Go
variable {X : Call}

structure NodeM where
  kind : Int
  n : Int
  text : List UInt8
  names : List (List UInt8)
  kids : List Int
instance : BEq NodeM := ⟨fun s t => s.kind == t.kind && s.n == t.n && s.text == t.text && s.names == t.names && s.kids == t.kids⟩
theorem NodeM.refl (s : NodeM) : (s == s) = true := by show (s.kind == s.kind && s.n == s.n && s.text == s.text && s.names == s.names && s.kids == s.kids) = true; simp
structure TreeM where
  nodes : List NodeM
  root : Int
instance : BEq TreeM := ⟨fun s t => s.nodes == t.nodes && s.root == t.root⟩
def sumL : List (List UInt8) → Nat
  | [] => 0
  | t :: l => t.length + sumL l
def NodeM.size (m : NodeM) : Nat := m.text.length + (m.names.length + sumL m.names) + m.kids.length
def TreeM.size (m : TreeM) : Nat := m.nodes.length + sumS NodeM.size m.nodes
abbrev nc (m : NodeM) (an ak : AV) : List AV := [int m.kind, int m.n, .str m.text, an, ak]
def NOk (m : NodeM) : Prop := I64 m.kind ∧ I64 m.n ∧ LenOk m.text.length ∧ LenOk m.names.length ∧ LenOk m.kids.length
def RNode : Rp NodeM := fun σ m cs => ∃ an ak, cs = nc m an ak ∧ RS RT 1 σ m.names an ∧ RS RI 1 σ m.kids ak ∧ NOk m
def RNodeO (lo hi : Nat) : Rp NodeM := fun σ m cs => ∃ an ak, cs = nc m an ak ∧ RSO (fun _ _ => RT) 1 lo hi σ m.names an ∧ RSO (fun _ _ => RI) 1 lo hi σ m.kids ak ∧ NOk m
theorem RNode.mono : Mono RNode := fun σ ext m cs ⟨an, ak, h1, h2, h3, h4⟩ => ⟨an, ak, h1, h2.mono (RP.mono _ _) ext, h3.mono (RP.mono _ _) ext, h4⟩
theorem RNode.sized : Sized RNode 5 := fun _ _ _ ⟨_, _, h, _⟩ => by rw [h]; rfl
theorem RNodeO.wideQ : Wide RNodeO := fun lo lo' hi hi' σ m cs h1 h2 ⟨an, ak, h3, h4, h5, h6⟩ => ⟨an, ak, h3, h4.wide (fun _ _ _ _ _ _ _ _ _ h => h) h1 h2, h5.wide (fun _ _ _ _ _ _ _ _ _ h => h) h1 h2, h6⟩
theorem RNodeO.r {lo hi : Nat} {σ : Store} {m : NodeM} {cs : List AV} (h : RNodeO lo hi σ m cs) : RNode σ m cs := by
  obtain ⟨an, ak, h1, h2, h3, h4⟩ := h
  exact ⟨an, ak, h1, h2.1, h3.1, h4⟩

/-! ### Sizes -/

theorem szStringS_loop {R : Type} (σ : Store) (a : AV) (l : List (List UInt8)) (ha : RS RT 1 σ l a) (hn : l.length ≤ 9223372036854775807) (hok : ∀ t ∈ l, LenOk t.length) : ∀ (m i : Nat) (left : Int), m = l.length - i → i ≤ l.length → 0 ≤ left → left ≤ 1048576 →
      (∀ k : Out → S → Option R, loopK (EE X) [0, 1, 5] l_laws_szStringS_0 ([(0, .v a), (1, .v (int left)), (5, .v (int i))], ⟨[], σ⟩) k = k .ret ([(4, .v (int (-1)))], ⟨[], σ⟩)) ∨
      ∃ w, 0 ≤ w ∧ w + sumL (l.drop i) ≤ left ∧ ∀ k : Out → S → Option R, loopK (EE X) [0, 1, 5] l_laws_szStringS_0 ([(0, .v a), (1, .v (int left)), (5, .v (int i))], ⟨[], σ⟩) k =
        k (.exit 0) ([(0, .v a), (1, .v (int w)), (5, .v (int l.length)), (15, .v (.bool false))], ⟨[], σ⟩) := by
  intro m
  induction m with
  | zero =>
    intro i left hm hi h0 h1
    have e : i = l.length := by omega
    subst e
    refine .inr ⟨left, h0, by simp [sumL], fun k => ?_⟩
    rw [loopK_step l_laws_szStringS_0.eq_1]
    simp (config := {contextual := true, implicitDefEqProofs := false, maxSteps := 1000000}) only [
    ↓PR0, ↓PR1, ↓PR2, PO0, PO1, PO2, PO3, idxV_str, result, resOf, allSome, number, upd, List.map, Option.bind_some, Nat.reduceAdd, Nat.reduceSub, Nat.reduceLeDiff, Nat.reduceLT, Nat.reduceEqDiff, Nat.zero_add, Nat.add_zero, Nat.le_refl, 
    reduceIte, ne_eq, not_false_eq_true, and_self, true_and, and_true, reduceCtorEq, cond_true, cond_false, ha.len, Int.lt_irrefl, decide_false]
  | succ m ih =>
    intro i left hm hi h0 h1
    have hlt : i < l.length := by omega
    have hlt' : (i : Int) < (l.length : Int) := by omega
    have hw : IntKind.i64.wrap ((i : Int) + 1) = ((i + 1 : Nat) : Int) := wrap64 (by omega) (by omega)
    obtain ⟨cs, ⟨hp, hl⟩, ha1, ha2, _⟩ := ha.get (List.getElem?_eq_getElem hlt)
    subst hp
    have hl' : l[i].length ≤ 9223372036854775807 := hl
    have hs : IntKind.i64.wrap (left - (l[i].length : Int)) = left - (l[i].length : Int) := wrap64 (by omega) (by omega)
    rw [List.drop_eq_getElem_cons hlt]
    by_cases hneg : left - (l[i].length : Int) < 0
    · left
      intro k
      rw [loopK_step l_laws_szStringS_0.eq_1]
      simp (config := {contextual := true, implicitDefEqProofs := false, maxSteps := 1000000}) only [
    ↓PR0, ↓PR1, ↓PR2, PO0, PO1, PO2, PO3, idxV_str, result, resOf, allSome, number, upd, List.map, Option.bind_some, Nat.reduceAdd, Nat.reduceSub, Nat.reduceLeDiff, Nat.reduceLT, Nat.reduceEqDiff, Nat.zero_add, Nat.add_zero, Nat.le_refl, 
    reduceIte, ne_eq, not_false_eq_true, and_self, true_and, and_true, reduceCtorEq, cond_true, cond_false, ha.len, hlt', decide_true, ha1, ha2, hs, hneg]
    · rcases ih (i + 1) (left - (l[i].length : Int)) (by omega) (by omega) (by omega) (by omega) with h | ⟨w', h2, h3, h4⟩
      · left
        intro k
        rw [← h k, loopK_step l_laws_szStringS_0.eq_1]
        simp (config := {contextual := true, implicitDefEqProofs := false, maxSteps := 1000000}) only [
    ↓PR0, ↓PR1, ↓PR2, PO0, PO1, PO2, PO3, idxV_str, result, resOf, allSome, number, upd, List.map, Option.bind_some, Nat.reduceAdd, Nat.reduceSub, Nat.reduceLeDiff, Nat.reduceLT, Nat.reduceEqDiff, Nat.zero_add, Nat.add_zero, Nat.le_refl, 
    reduceIte, ne_eq, not_false_eq_true, and_self, true_and, and_true, reduceCtorEq, cond_true, cond_false, ha.len, hlt', decide_true, decide_false, ha1, ha2, hs, hneg, hw]
      · refine .inr ⟨w', h2, by simp only [sumL]; omega, fun k => ?_⟩
        rw [← h4 k, loopK_step l_laws_szStringS_0.eq_1]
        simp (config := {contextual := true, implicitDefEqProofs := false, maxSteps := 1000000}) only [
    ↓PR0, ↓PR1, ↓PR2, PO0, PO1, PO2, PO3, idxV_str, result, resOf, allSome, number, upd, List.map, Option.bind_some, Nat.reduceAdd, Nat.reduceSub, Nat.reduceLeDiff, Nat.reduceLT, Nat.reduceEqDiff, Nat.zero_add, Nat.add_zero, Nat.le_refl, 
    reduceIte, ne_eq, not_false_eq_true, and_self, true_and, and_true, reduceCtorEq, cond_true, cond_false, ha.len, hlt', decide_true, decide_false, ha1, ha2, hs, hneg, hw]
theorem RT.oks {σ : Store} {l : List (List UInt8)} {a : AV} (ha : RS RT 1 σ l a) : ∀ t ∈ l, LenOk t.length := by
  obtain ⟨els, hsl, h4⟩ := ha
  clear hsl
  induction h4 with
  | nil => intro m hm; cases hm
  | cons h5 _ ih =>
    intro m hm
    rcases List.mem_cons.1 hm with rfl | hm
    · exact h5.2
    · exact ih m hm
theorem szStringS_eq (σ : Store) (a : AV) (l : List (List UInt8)) (left : Int) (ha : RS RT 1 σ l a) (hn : LenOk l.length) (h0 : 0 ≤ left) (h1 : left ≤ 1048576) :
    ∃ w, EE X f_laws_szStringS [a, int left] σ = some (int w, σ) ∧ Left left w (l.length + sumL l) := by
  have hn' : l.length ≤ 9223372036854775807 := hn
  have hw : IntKind.i64.wrap (left - (l.length : Int)) = left - (l.length : Int) := wrap64 (by omega) (by omega)
  by_cases hneg : left - (l.length : Int) < 0
  · refine ⟨-1, ?_, by omega, .inl (by omega)⟩
    rw [EE, Ex_run C_laws_szStringS rfl]
    simp (config := {contextual := true, implicitDefEqProofs := false, maxSteps := 1000000}) only [
    ↓PR0, ↓PR1, ↓PR2, PO0, PO1, PO2, PO3, idxV_str, result, resOf, allSome, number, upd, List.map, Option.bind_some, Nat.reduceAdd, Nat.reduceSub, Nat.reduceLeDiff, Nat.reduceLT, Nat.reduceEqDiff, Nat.zero_add, Nat.add_zero, Nat.le_refl, 
    reduceIte, ne_eq, not_false_eq_true, and_self, true_and, and_true, reduceCtorEq, cond_true, cond_false, c_laws_szStringS, ha.len, hw, hneg, decide_true]
  · rcases szStringS_loop (X := X) (R := AV × Store) σ a l ha hn' (RT.oks ha) l.length 0 (left - (l.length : Int)) (by omega) (by omega) (by omega) (by omega) with h | ⟨w, h2, h3, h4⟩
    · simp only [Int.cast_ofNat_Int] at h
      refine ⟨-1, ?_, by omega, .inl (by omega)⟩
      rw [EE, Ex_run C_laws_szStringS rfl]
      simp (config := {contextual := true, implicitDefEqProofs := false, maxSteps := 1000000}) only [
    ↓PR0, ↓PR1, ↓PR2, PO0, PO1, PO2, PO3, idxV_str, result, resOf, allSome, number, upd, List.map, Option.bind_some, Nat.reduceAdd, Nat.reduceSub, Nat.reduceLeDiff, Nat.reduceLT, Nat.reduceEqDiff, Nat.zero_add, Nat.add_zero, Nat.le_refl, 
    reduceIte, ne_eq, not_false_eq_true, and_self, true_and, and_true, reduceCtorEq, cond_true, cond_false, c_laws_szStringS, ha.len, hw, hneg, decide_false, h]
    · simp only [Int.cast_ofNat_Int] at h4
      refine ⟨w, ?_, by omega, .inr (by simp only [List.drop_zero] at h3; omega)⟩
      rw [EE, Ex_run C_laws_szStringS rfl]
      simp (config := {contextual := true, implicitDefEqProofs := false, maxSteps := 1000000}) only [
    ↓PR0, ↓PR1, ↓PR2, PO0, PO1, PO2, PO3, idxV_str, result, resOf, allSome, number, upd, List.map, Option.bind_some, Nat.reduceAdd, Nat.reduceSub, Nat.reduceLeDiff, Nat.reduceLT, Nat.reduceEqDiff, Nat.zero_add, Nat.add_zero, Nat.le_refl, 
    reduceIte, ne_eq, not_false_eq_true, and_self, true_and, and_true, reduceCtorEq, cond_true, cond_false, c_laws_szStringS, ha.len, hw, hneg, decide_false, h4]
theorem szIntS_eq (σ : Store) (a : AV) (l : List Int) (left : Int) (ha : RS RI 1 σ l a) (hn : LenOk l.length) (h0 : 0 ≤ left) (h1 : left ≤ 1048576) :
    ∃ w, EE X f_laws_szIntS [a, int left] σ = some (int w, σ) ∧ Left left w l.length := by
  have hn' : l.length ≤ 9223372036854775807 := hn
  have hw : IntKind.i64.wrap (left - (l.length : Int)) = left - (l.length : Int) := wrap64 (by omega) (by omega)
  by_cases hneg : left - (l.length : Int) < 0
  · refine ⟨-1, ?_, by omega, .inl (by omega)⟩
    rw [EE, Ex_run C_laws_szIntS rfl]
    simp (config := {contextual := true, implicitDefEqProofs := false, maxSteps := 1000000}) only [
    ↓PR0, ↓PR1, ↓PR2, PO0, PO1, PO2, PO3, idxV_str, result, resOf, allSome, number, upd, List.map, Option.bind_some, Nat.reduceAdd, Nat.reduceSub, Nat.reduceLeDiff, Nat.reduceLT, Nat.reduceEqDiff, Nat.zero_add, Nat.add_zero, Nat.le_refl, 
    reduceIte, ne_eq, not_false_eq_true, and_self, true_and, and_true, reduceCtorEq, cond_true, cond_false, c_laws_szIntS, ha.len, hw, hneg, decide_true]
  · refine ⟨left - (l.length : Int), ?_, by omega, .inr (by omega)⟩
    rw [EE, Ex_run C_laws_szIntS rfl]
    simp (config := {contextual := true, implicitDefEqProofs := false, maxSteps := 1000000}) only [
    ↓PR0, ↓PR1, ↓PR2, PO0, PO1, PO2, PO3, idxV_str, result, resOf, allSome, number, upd, List.map, Option.bind_some, Nat.reduceAdd, Nat.reduceSub, Nat.reduceLeDiff, Nat.reduceLT, Nat.reduceEqDiff, Nat.zero_add, Nat.add_zero, Nat.le_refl, 
    reduceIte, ne_eq, not_false_eq_true, and_self, true_and, and_true, reduceCtorEq, cond_true, cond_false, c_laws_szIntS, ha.len, hw, hneg, decide_false]
theorem szNode_eq : Sizes (EE X) f_laws_szNode RNode NodeM.size := by
  intro σ m cs left ⟨an, ak, hc, hs, hk, h2, h3, h4, h5, h6⟩ h0 h1
  subst hc
  have h4' : m.text.length ≤ 9223372036854775807 := h4
  have hw : IntKind.i64.wrap (left - (m.text.length : Int)) = left - (m.text.length : Int) := wrap64 (by omega) (by omega)
  by_cases hneg : left - (m.text.length : Int) < 0
  · refine ⟨-1, ?_, by omega, .inl (by omega)⟩
    rw [EE, Ex_run C_laws_szNode rfl]
    simp (config := {contextual := true, implicitDefEqProofs := false, maxSteps := 1000000}) only [
    ↓PR0, ↓PR1, ↓PR2, PO0, PO1, PO2, PO3, idxV_str, result, resOf, allSome, number, upd, List.map, Option.bind_some, Nat.reduceAdd, Nat.reduceSub, Nat.reduceLeDiff, Nat.reduceLT, Nat.reduceEqDiff, Nat.zero_add, Nat.add_zero, Nat.le_refl, 
    reduceIte, ne_eq, not_false_eq_true, and_self, true_and, and_true, reduceCtorEq, cond_true, cond_false, c_laws_szNode, hs.cellsOf, hk.cellsOf, hw, hneg, decide_true]
  · obtain ⟨w1, e1, l1, l2⟩ := szStringS_eq (X := X) σ an m.names _ hs h5 (show 0 ≤ left - (m.text.length : Int) by omega) (by omega)
    by_cases hn1 : w1 < 0
    · refine ⟨-1, ?_, by omega, .inl (by omega)⟩
      rw [EE, Ex_run C_laws_szNode rfl]
      simp (config := {contextual := true, implicitDefEqProofs := false, maxSteps := 1000000}) only [
    ↓PR0, ↓PR1, ↓PR2, PO0, PO1, PO2, PO3, idxV_str, result, resOf, allSome, number, upd, List.map, Option.bind_some, Nat.reduceAdd, Nat.reduceSub, Nat.reduceLeDiff, Nat.reduceLT, Nat.reduceEqDiff, Nat.zero_add, Nat.add_zero, Nat.le_refl, 
    reduceIte, ne_eq, not_false_eq_true, and_self, true_and, and_true, reduceCtorEq, cond_true, cond_false, c_laws_szNode, hs.cellsOf, hk.cellsOf, hw, hneg, decide_false, e1, hn1, decide_true]
    · obtain ⟨w2, e2, l3, l4⟩ := szIntS_eq (X := X) σ ak m.kids w1 hk h6 (by omega) (by omega)
      by_cases hn2 : w2 < 0
      · refine ⟨-1, ?_, by omega, .inl (by omega)⟩
        rw [EE, Ex_run C_laws_szNode rfl]
        simp (config := {contextual := true, implicitDefEqProofs := false, maxSteps := 1000000}) only [
    ↓PR0, ↓PR1, ↓PR2, PO0, PO1, PO2, PO3, idxV_str, result, resOf, allSome, number, upd, List.map, Option.bind_some, Nat.reduceAdd, Nat.reduceSub, Nat.reduceLeDiff, Nat.reduceLT, Nat.reduceEqDiff, Nat.zero_add, Nat.add_zero, Nat.le_refl, 
    reduceIte, ne_eq, not_false_eq_true, and_self, true_and, and_true, reduceCtorEq, cond_true, cond_false, c_laws_szNode, hs.cellsOf, hk.cellsOf, hw, hneg, decide_false, e1, hn1, e2, hn2, decide_true]
      · refine ⟨w2, ?_, by omega, .inr (by simp only [NodeM.size]; omega)⟩
        rw [EE, Ex_run C_laws_szNode rfl]
        simp (config := {contextual := true, implicitDefEqProofs := false, maxSteps := 1000000}) only [
    ↓PR0, ↓PR1, ↓PR2, PO0, PO1, PO2, PO3, idxV_str, result, resOf, allSome, number, upd, List.map, Option.bind_some, Nat.reduceAdd, Nat.reduceSub, Nat.reduceLeDiff, Nat.reduceLT, Nat.reduceEqDiff, Nat.zero_add, Nat.add_zero, Nat.le_refl, 
    reduceIte, ne_eq, not_false_eq_true, and_self, true_and, and_true, reduceCtorEq, cond_true, cond_false, c_laws_szNode, hs.cellsOf, hk.cellsOf, hw, hneg, decide_false, e1, hn1, e2, hn2]
theorem szNodeS_eq : SizesS (EE X) f_laws_szNodeS RNode 5 NodeM.size := szS C_laws_szNodeS szNode_eq RNode.sized

/-! ### Comparisons -/

theorem eqStringS_eq' : EqsS (EE X) f_laws_eqStringS RT 1 := eqP C_laws_eqStringS RT_neq
theorem eqIntS_eq' : EqsS (EE X) f_laws_eqIntS RI 1 := eqP C_laws_eqIntS RI_neq
theorem eqNode_eq : Eqs (EE X) f_laws_eqNode RNode := by
  intro σ m cs m' cs' ⟨an, ak, hc, hs, hk, h2, h3, h4, h5, h6⟩ ⟨an', ak', hc', hs', hk', _⟩
  subst hc; subst hc'
  have q1 := eqStringS_eq' (X := X) σ _ _ _ _ hs hs' h5
  have q2 := eqIntS_eq' (X := X) σ _ _ _ _ hk hk' h6
  show _ = some (AV.bool (m.kind == m'.kind && m.n == m'.n && m.text == m'.text && m.names == m'.names && m.kids == m'.kids), σ)
  rw [EE, Ex_run C_laws_eqNode rfl]
  simp (config := {contextual := true, implicitDefEqProofs := false, maxSteps := 1000000}) only [
    ↓PR0, ↓PR1, ↓PR2, PO0, PO1, PO2, PO3, idxV_str, result, resOf, allSome, number, upd, List.map, Option.bind_some, Nat.reduceAdd, Nat.reduceSub, Nat.reduceLeDiff, Nat.reduceLT, Nat.reduceEqDiff, Nat.zero_add, Nat.add_zero, Nat.le_refl, 
    reduceIte, ne_eq, not_false_eq_true, and_self, true_and, and_true, reduceCtorEq, cond_true, cond_false, c_laws_eqNode, hs.cellsOf, hk.cellsOf, hs'.cellsOf, hk'.cellsOf, q1, q2, bne]
  cases m.kind == m'.kind <;> cases m.n == m'.n <;> cases m.text == m'.text <;> cases m.names == m'.names <;> cases m.kids == m'.kids <;> rfl
theorem eqNodeS_eq : EqsS (EE X) f_laws_eqNodeS RNode 5 := eqS C_laws_eqNodeS eqNode_eq RNode.sized

/-! ### Copies -/

theorem toStringS_eq (σ : Store) (a : AV) (l : List (List UInt8)) (ha : RS RT 1 σ l a) (hn : l.length ≤ 1048576) : ∃ a' ext, EE X f_laws_toStringS [a] σ = some (a', σ ++ ext) ∧ FR σ.length (σ ++ ext) (fun st => RSO (fun _ _ => RT) 1 σ.length (σ ++ ext).length st l a') ∧ cellsOf a' = some [a'] :=
  toP C_laws_toStringS (fun _ => rfl) σ a l ha (by omega) (by omega)
theorem toIntS_eq (σ : Store) (a : AV) (l : List Int) (ha : RS RI 1 σ l a) (hn : l.length ≤ 1048576) : ∃ a' ext, EE X f_laws_toIntS [a] σ = some (a', σ ++ ext) ∧ FR σ.length (σ ++ ext) (fun st => RSO (fun _ _ => RI) 1 σ.length (σ ++ ext).length st l a') ∧ cellsOf a' = some [a'] :=
  toP C_laws_toIntS (fun _ => rfl) σ a l ha (by omega) (by omega)
end Go.X
