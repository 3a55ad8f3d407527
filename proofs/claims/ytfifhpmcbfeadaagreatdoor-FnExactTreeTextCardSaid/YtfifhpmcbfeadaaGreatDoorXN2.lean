/- Trees: copies, whole trees. -/
import Derived.Test.YtfifhpmcbfeadaaGreatDoorXN1
set_option linter.unusedVariables false
set_option linter.unusedSimpArgs false
set_option maxRecDepth 20000
namespace Go.X
open Go
variable {X : Call}

def RNodeB : Rp NodeM := fun σ m cs => RNode σ m cs ∧ m.size ≤ 1048576
theorem RNodeB.mono : Mono RNodeB := fun σ ext m cs ⟨h, h2⟩ => ⟨RNode.mono _ _ _ _ h, h2⟩
theorem RNodeB.sized : Sized RNodeB 5 := fun _ _ _ h => RNode.sized _ _ _ h.1
theorem toNode_eq : Copies (EE X) f_laws_toNode RNodeB RNodeO 5 := by
  intro σ m cs ⟨⟨an, ak, hc, hs, hk, h2⟩, hb⟩
  subst hc
  have hn : m.names.length ≤ 1048576 := by simp only [NodeM.size] at hb; omega
  have hk' : m.kids.length ≤ 1048576 := by simp only [NodeM.size] at hb; omega
  obtain ⟨a1, e1, t1, f1, c1⟩ := toStringS_eq (X := X) σ an m.names hs hn
  obtain ⟨a2, e2, t2, f2, c2⟩ := toIntS_eq (X := X) (σ ++ e1) ak m.kids (hk.mono (RP.mono _ _) e1) hk'
  refine ⟨nc m a1 a2, e1 ++ e2, ?_, rfl, ?_⟩
  · rw [EE, Ex_run C_laws_toNode rfl]
    simp (config := {contextual := true, implicitDefEqProofs := false, maxSteps := 1000000}) only [
    ↓PR0, ↓PR1, ↓PR2, PO0, PO1, PO2, PO3, idxV_str, result, resOf, allSome, number, upd, List.map, Option.bind_some, Nat.reduceAdd, Nat.reduceSub, Nat.reduceLeDiff, Nat.reduceLT, Nat.reduceEqDiff, Nat.zero_add, Nat.add_zero, Nat.le_refl, 
    reduceIte, ne_eq, not_false_eq_true, and_self, true_and, and_true, reduceCtorEq, cond_true, cond_false, c_laws_toNode, hs.cellsOf, hk.cellsOf, t1, c1, t2, c2, List.append_assoc]
  · rw [List.append_assoc] at f2
    have hl1 : (σ ++ e1).length ≤ (σ ++ (e1 ++ e2)).length := by simp only [List.length_append]; omega
    have hl2 : σ.length ≤ (σ ++ e1).length := by simp
    have g1 : FR σ.length (σ ++ (e1 ++ e2)) (fun st => RSO (fun _ _ => RT) 1 σ.length (σ ++ (e1 ++ e2)).length st m.names a1) :=
      (f1.mono (Nat.le_refl _) hl1 (fun r _ h => by rw [← List.append_assoc, List.getElem?_append_left h])).imp (fun st h => h.wide (fun _ _ _ _ _ _ _ _ _ h => h) (Nat.le_refl _) hl1)
    have g2 : FR σ.length (σ ++ (e1 ++ e2)) (fun st => RSO (fun _ _ => RI) 1 σ.length (σ ++ (e1 ++ e2)).length st m.kids a2) :=
      (f2.mono hl2 (Nat.le_refl _) (fun r _ h => rfl)).imp (fun st h => h.wide (fun _ _ _ _ _ _ _ _ _ h => h) hl2 (Nat.le_refl _))
    exact fun st he => ⟨a1, a2, rfl, g1 st he, g2 st he, h2⟩

def RTree : Rp TreeM := fun σ m cs => ∃ a, cs = [a, int m.root] ∧ RS RNode 5 σ m.nodes a ∧ I64 m.root ∧ LenOk m.nodes.length
def RTreeO (lo hi : Nat) : Rp TreeM := fun σ m cs => ∃ a, cs = [a, int m.root] ∧ RSO RNodeO 5 lo hi σ m.nodes a ∧ I64 m.root ∧ LenOk m.nodes.length
theorem RTree.mono : Mono RTree := fun σ ext m cs ⟨a, h1, h2, h3⟩ => ⟨a, h1, h2.mono RNode.mono ext, h3⟩
theorem RTree.sized : Sized RTree 2 := fun _ _ _ ⟨_, h, _⟩ => by rw [h]; rfl
theorem RTreeO.r {lo hi : Nat} {σ : Store} {m : TreeM} {cs : List AV} (h : RTreeO lo hi σ m cs) : RTree σ m cs := by
  obtain ⟨a, h1, ⟨⟨els, h2, h3⟩, _⟩, h4⟩ := h
  exact ⟨a, h1, ⟨els, h2, h3.imp (fun m cs h => h.r)⟩, h4⟩
theorem szTree_eq (σ : Store) (m : TreeM) (cs : List AV) (left : Int) (h : RTree σ m cs) (h0 : 0 ≤ left) (h1 : left ≤ 1048576) : ∃ w, EE X f_laws_szTree [.agg cs, int left] σ = some (int w, σ) ∧ Left left w m.size := by
  obtain ⟨a, hc, ha, h2, h3⟩ := h
  subst hc
  obtain ⟨w, e1, l1, l2⟩ := szNodeS_eq (X := X) σ m.nodes a left ha h3 h0 h1
  by_cases hn : w < 0
  · refine ⟨-1, ?_, by omega, .inl (by omega)⟩
    rw [EE, Ex_run C_laws_szTree rfl]
    simp (config := {contextual := true, implicitDefEqProofs := false, maxSteps := 1000000}) only [
    ↓PR0, ↓PR1, ↓PR2, PO0, PO1, PO2, PO3, idxV_str, result, resOf, allSome, number, upd, List.map, Option.bind_some, Nat.reduceAdd, Nat.reduceSub, Nat.reduceLeDiff, Nat.reduceLT, Nat.reduceEqDiff, Nat.zero_add, Nat.add_zero, Nat.le_refl, 
    reduceIte, ne_eq, not_false_eq_true, and_self, true_and, and_true, reduceCtorEq, cond_true, cond_false, c_laws_szTree, ha.cellsOf, e1, hn, decide_true]
  · refine ⟨w, ?_, l1, l2⟩
    rw [EE, Ex_run C_laws_szTree rfl]
    simp (config := {contextual := true, implicitDefEqProofs := false, maxSteps := 1000000}) only [
    ↓PR0, ↓PR1, ↓PR2, PO0, PO1, PO2, PO3, idxV_str, result, resOf, allSome, number, upd, List.map, Option.bind_some, Nat.reduceAdd, Nat.reduceSub, Nat.reduceLeDiff, Nat.reduceLT, Nat.reduceEqDiff, Nat.zero_add, Nat.add_zero, Nat.le_refl, 
    reduceIte, ne_eq, not_false_eq_true, and_self, true_and, and_true, reduceCtorEq, cond_true, cond_false, c_laws_szTree, ha.cellsOf, e1, hn, decide_false]
theorem eqTree_eq (σ : Store) (m m' : TreeM) (cs cs' : List AV) (h : RTree σ m cs) (h' : RTree σ m' cs') : EE X f_laws_eqTree [.agg cs, .agg cs'] σ = some (.bool (m == m'), σ) := by
  obtain ⟨a, hc, ha, h2, h3⟩ := h
  obtain ⟨a', hc', ha', _⟩ := h'
  subst hc; subst hc'
  have q1 := eqNodeS_eq (X := X) σ _ _ _ _ ha ha' h3
  show _ = some (AV.bool (m.nodes == m'.nodes && m.root == m'.root), σ)
  rw [EE, Ex_run C_laws_eqTree rfl]
  simp (config := {contextual := true, implicitDefEqProofs := false, maxSteps := 1000000}) only [
    ↓PR0, ↓PR1, ↓PR2, PO0, PO1, PO2, PO3, idxV_str, result, resOf, allSome, number, upd, List.map, Option.bind_some, Nat.reduceAdd, Nat.reduceSub, Nat.reduceLeDiff, Nat.reduceLT, Nat.reduceEqDiff, Nat.zero_add, Nat.add_zero, Nat.le_refl, 
    reduceIte, ne_eq, not_false_eq_true, and_self, true_and, and_true, reduceCtorEq, cond_true, cond_false, c_laws_eqTree, ha.cellsOf, ha'.cellsOf, q1, bne]
  cases m.nodes == m'.nodes <;> cases m.root == m'.root <;> rfl
theorem nodes_refl : ∀ l : List NodeM, (l == l) = true
  | [] => rfl
  | x :: l => by show (x == x && l == l) = true; rw [NodeM.refl, nodes_refl l]; rfl
theorem TreeM.refl (m : TreeM) : (m == m) = true := by show (m.nodes == m.nodes && m.root == m.root) = true; rw [nodes_refl]; simp
theorem toTree_pre (σ : Store) (m : TreeM) (cs : List AV) (h : RTree σ m cs) (hb : m.size ≤ 1048576) : ∃ cs' σ', EE X f_laws_toTree [.agg cs] σ = some (.agg cs', σ') ∧ cs'.length = 2 ∧ Pre σ σ' ∧ RTreeO σ.length σ'.length σ' m cs' := by
  obtain ⟨a, hc, ⟨els, ha, hall⟩, h2, h3⟩ := h
  subst hc
  have hl : m.nodes.length ≤ 1048576 := by simp only [TreeM.size] at hb; omega
  have haB : RS RNodeB 5 σ m.nodes a := ⟨els, ha, hall.imp_mem (fun x cs hx h => ⟨h, by have := sumS_mem (size := NodeM.size) hx; simp only [TreeM.size] at hb; omega⟩)⟩
  obtain ⟨a', ext, t1, f1, c1⟩ := toS C_laws_toNodeS (toNode_eq (X := X)) RNodeO.wideQ RNodeB.mono RNodeB.sized rfl σ a m.nodes haB (by omega) (by omega)
  refine ⟨[a', int m.root], σ ++ ext, ?_, rfl, Pre.app _ _, ⟨a', rfl, f1.self, h2, h3⟩⟩
  have t1' : EE X f_laws_toNodeS [a] σ = some (a', σ ++ ext) := t1
  rw [EE, Ex_run C_laws_toTree rfl]
  simp (config := {contextual := true, implicitDefEqProofs := false, maxSteps := 1000000}) only [
    ↓PR0, ↓PR1, ↓PR2, PO0, PO1, PO2, PO3, idxV_str, result, resOf, allSome, number, upd, List.map, Option.bind_some, Nat.reduceAdd, Nat.reduceSub, Nat.reduceLeDiff, Nat.reduceLT, Nat.reduceEqDiff, Nat.zero_add, Nat.add_zero, Nat.le_refl, 
    reduceIte, ne_eq, not_false_eq_true, and_self, true_and, and_true, reduceCtorEq, cond_true, cond_false, c_laws_toTree, ha.cellsOf, t1', c1]
/-- What of a tree stays. -/
theorem RTree.pre {σ σ' : Store} {m : TreeM} {cs : List AV} (h : RTree σ m cs) (k : Pre σ σ') : RTree σ' m cs := RTree.mono.pre h k
theorem RSO.pre {α : Type} {Q : Nat → Nat → Rp α} {lo hi sz : Nat} (hQ : Mono (Q lo hi)) {σ σ' : Store} {l : List α} {a : AV} (h : RSO Q sz lo hi σ l a) (k : Pre σ σ') : RSO Q sz lo hi σ' l a := by
  obtain ⟨t, rfl⟩ := k.of
  exact ⟨h.1.mono hQ t, h.2.mono t⟩
theorem RNodeO.mono (lo hi : Nat) : Mono (RNodeO lo hi) := fun σ ext m cs ⟨an, ak, h1, h2, h3, h4⟩ => ⟨an, ak, h1, h2.pre (RP.mono _ _) (Pre.app _ _), h3.pre (RP.mono _ _) (Pre.app _ _), h4⟩
theorem RTreeO.pre {lo hi : Nat} {σ σ' : Store} {m : TreeM} {cs : List AV} (h : RTreeO lo hi σ m cs) (k : Pre σ σ') : RTreeO lo hi σ' m cs := by
  obtain ⟨a, h1, h2, h3⟩ := h
  exact ⟨a, h1, h2.pre (RNodeO.mono lo hi) k, h3⟩
/-- What is owned depends on its rows alone. -/
theorem RSO.depO {α : Type} {emb : α → AV} {ok : α → Prop} {lo hi : Nat} {σ : Store} {l : List α} {a : AV} (h : RSO (fun _ _ => RP emb ok) 1 lo hi σ l a) : Dep (fun r => lo ≤ r ∧ r < hi) σ (fun st => RSO (fun _ _ => RP emb ok) 1 lo hi st l a) := by
  obtain ⟨⟨els, h1, h2⟩, h3⟩ := h
  exact (h1.dep h3).imp (fun st h => ⟨⟨els, h.1, h2⟩, h.2⟩)
end Go.X
