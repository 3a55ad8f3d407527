/- Right trees: the program's walk. -/
import Derived.Test.YtfifhpmcbfeadaaGreatDoorXL7
import Derived.Test.YtfifhpmcbfeadaaGreatDoorXN2
import Derived.Test.YtfifhpmcbfeadaaGreatDoorXA2
set_option linter.unusedVariables false
set_option linter.unusedSimpArgs false
set_option maxRecDepth 20000
namespace Go.X
open Go
variable {X : Call}

/-! ### Trees that lie in a store -/

theorem RTree.node {τ : Store} {m : TreeM} {a : AV} (hT : RTree τ m [a, int m.root]) {k : Nat} {nd : NodeM} (hk : m.nodes[k]? = some nd) : ∃ an ak, RNode τ nd (nc nd an ak) ∧ RS RT 1 τ nd.names an ∧ RS RI 1 τ nd.kids ak ∧ ∀ σ, Pre τ σ → iadrV σ 5 a (int k) = some (elP a k) ∧ (∀ bx, place ⟨bx, σ⟩ (.v (elP a k)) = some (nc nd an ak, 0)) ∧ (∀ o, fadrV o (.v (elP a k)) = some (.v (elQ a k o))) ∧ ∀ bx o, place ⟨bx, σ⟩ (.v (elQ a k o)) = some (nc nd an ak, o) := by
  obtain ⟨a', hc, ⟨els, h1, h2⟩, _⟩ := hT
  cases hc
  obtain ⟨cs, h3, h4⟩ := h2.get hk
  have hl := (List.getElem?_eq_some_iff.1 h3).1
  have h4' := h4
  obtain ⟨an, ak, rfl, h5, h6, _⟩ := h4
  refine ⟨an, ak, h4', h5, h6, fun σ hp => ?_⟩
  obtain ⟨t, rfl⟩ := hp.of
  have h1' := h1.append t
  exact ⟨h1'.iadr .i64 hl, fun bx => h1'.place bx h3, fun o => h1'.fadrQ hl o, fun bx o => h1'.placeQ bx h3 o⟩
theorem RTree.len {τ : Store} {m : TreeM} {a : AV} (hT : RTree τ m [a, int m.root]) : lenV false a = some (.int .i64 m.nodes.length) ∧ cellsOf a = some [a] := by
  obtain ⟨a', hc, h, _⟩ := hT
  cases hc
  exact ⟨h.len, h.cellsOf⟩
theorem Pre.low {τ σ σ' : Store} (h : Pre τ σ) (k : Fr (fun x => τ.length ≤ x) σ σ') : Pre τ σ' := h.trans k (fun r h1 h2 => by omega)
theorem Pre.up {W : Nat → Prop} {σ σ' : Store} (h : Pre σ σ') : Fr W σ σ' := h.weak (fun _ _ h => h.elim)
theorem NodeM.size_le {m : TreeM} {k : Nat} {nd : NodeM} (h : m.nodes[k]? = some nd) (hs : m.size ≤ 1048576) : nd.size ≤ 1048576 := by
  have := sumS_mem (size := NodeM.size) (List.mem_of_getElem? h)
  simp only [TreeM.size] at hs
  omega

/-! ### What has been seen -/

def seenL (n : Nat) (vis : List Nat) : List Bool := (List.range n).map (fun i => vis.contains i)
theorem seenL_len (n : Nat) (vis : List Nat) : (seenL n vis).length = n := by simp [seenL]
theorem seenL_get (n : Nat) (vis : List Nat) (i : Nat) (h : i < n) : (seenL n vis)[i]? = some (vis.contains i) := by
  simp [seenL, h]
theorem seenL_set (n : Nat) (vis : List Nat) (i : Nat) (h : i < n) : (seenL n vis).set i true = seenL n (i :: vis) := by
  apply List.ext_getElem?
  intro j
  by_cases hj : j < n
  · rw [seenL_get _ _ _ hj]
    by_cases e : i = j
    · subst e
      rw [List.getElem?_set_self (by rw [seenL_len]; exact h)]; simp
    · rw [List.getElem?_set_ne e, seenL_get _ _ _ hj]
      have : (j == i) = false := by rw [beq_eq_false_iff_ne]; exact fun h => e h.symm
      simp only [List.contains_cons, this, Bool.false_or]
  · rw [List.getElem?_eq_none (by simp [seenL_len]; omega), List.getElem?_eq_none (by rw [seenL_len]; omega)]
theorem seenL_all (n : Nat) (vis : List Nat) : (seenL n vis).any (fun x => false == x) = !((List.range n).all (fun i => vis.contains i)) := by
  simp only [seenL, List.any_map, List.not_all_eq_any_not]
  congr 1
  funext i
  simp only [Function.comp]
  cases vis.contains i <;> rfl
/-- A slice of bools in a row of its own. -/
def SeenAt (σ : Store) (sr n : Nat) (vis : List Nat) : Prop := σ[sr]? = some ⟨(seenL n vis).map (fun b => [.bool b]), 1, 0, .own⟩
theorem SeenAt.row {σ : Store} {sr n : Nat} {vis : List Nat} (h : SeenAt σ sr n vis) : rowAt σ sr 0 = some ⟨(seenL n vis).map (fun b => [.bool b]), 1, 0, .own⟩ := by
  have h' : σ[sr]? = _ := h
  simp [rowAt, h']
theorem SeenAt.lt {σ : Store} {sr n : Nat} {vis : List Nat} (h : SeenAt σ sr n vis) : sr < σ.length := (List.getElem?_eq_some_iff.1 h).1
theorem SeenAt.fr {W : Nat → Prop} {σ σ' : Store} {sr n : Nat} {vis : List Nat} (h : SeenAt σ sr n vis) (k : Fr W σ σ') (hw : ¬ W sr) : SeenAt σ' sr n vis := by
  unfold SeenAt
  rw [k.2 sr h.lt hw]
  exact h
abbrev RB : Rp Bool := RP .bool (fun _ => True)
theorem SeenAt.rs {σ : Store} {sr n : Nat} {vis : List Nat} (h : SeenAt σ sr n vis) : RS RB 1 σ (seenL n vis) (.sl sr 0 0 n) := by
  refine ⟨_, ?_, All2.map (f := fun b => [AV.bool b]) (fun b _ => ⟨rfl, trivial⟩)⟩
  have := SlAt.mk (i := 0) (n := n) h.row rfl (by simp [seenL_len])
  simpa [List.take_of_length_le, seenL_len] using this
theorem SeenAt.mark {σ : Store} {sr n : Nat} {vis : List Nat} (h : SeenAt σ sr n vis) {i : Nat} (hi : i < n) : ∃ σ', (∀ bx, putAt ⟨bx, σ⟩ (.v (elP (.sl sr 0 0 n) i)) [.bool true] = some ⟨bx, σ'⟩) ∧ SeenAt σ' sr n (i :: vis) ∧ Fr (fun r => r = sr) σ σ' := by
  refine ⟨σ.set sr ⟨(seenL n (i :: vis)).map (fun b => [.bool b]), 1, 0, .own⟩, fun bx => ?_, ?_, Fr.set _ _ _⟩
  · have hg : ((seenL n vis).map (fun b => [AV.bool b]))[i]? = some [.bool (vis.contains i)] := by rw [List.getElem?_map, seenL_get _ _ _ hi]; rfl
    simp only [elP, Nat.zero_add, putAt, h.row, Option.bind_some, hg]
    rw [if_pos ⟨trivial, by simp⟩]
    have hu : upd [AV.bool (vis.contains i)] 0 [.bool true] = [.bool true] := rfl
    rw [hu, ← seenL_set n vis i hi, List.map_set]
  · unfold SeenAt
    rw [List.getElem?_set_self h.lt]

/-- The checker in row r: the tree lies in τ, what was seen in row sr. -/
structure Chk (τ : Store) (m : TreeM) (a : AV) (r sr : Nat) (vis : List Nat) (σ : Store) : Prop where
  obj : ObjAt σ r [a, int m.root, .sl sr 0 0 m.nodes.length]
  seen : SeenAt σ sr m.nodes.length vis
  pre : Pre τ σ
  hr : τ.length ≤ r
  hs : τ.length ≤ sr
  ne : r ≠ sr
theorem Chk.next {τ : Store} {m : TreeM} {a : AV} {r sr : Nat} {vis : List Nat} {σ σ' : Store} (h : Chk τ m a r sr vis σ) (k : Pre σ σ') : Chk τ m a r sr vis σ' :=
  ⟨h.obj.pre k, h.seen.fr k (fun h => h), h.pre.pre k, h.hr, h.hs, h.ne⟩

def fitM (b : UInt8) (ob : Bool) (k : Int) : Bool := if b = 101 then exprK k else if b = 98 then k == 18 else stateK k || (ob && k == 20)
theorem fitM_right (b : UInt8) (root k : Int) (kd : Int) : fitM b (k == root) kd = rightM (adjM root k (sortB b)) kd := by
  simp only [fitM, sortB, adjM, rightM]
  by_cases h1 : b = 101
  · simp [h1]
  · by_cases h2 : b = 98
    · simp [h2]
    · by_cases h3 : k = root
      · simp [h1, h2, h3]
      · simp [h1, h2, h3]
theorem fits_eq {τ : Store} {m : TreeM} {a : AV} (hT : RTree τ m [a, int m.root]) {r sr : Nat} {vis : List Nat} {σ : Store} (h : Chk τ m a r sr vis σ) {k : Nat} {nd : NodeM} (hk : m.nodes[k]? = some nd) (b : UInt8) (ob : Bool) :
    EE X f_impl_checker_fits [.ptr r 0 0 0, int k, .int .u8 (b.toNat : Nat), .bool ob] σ = some (.bool (fitM b ob nd.kind), σ) := by
  obtain ⟨an, ak, _, _, _, hn⟩ := hT.node hk
  obtain ⟨n1, n2, n3, n4⟩ := hn σ h.pre
  have pl := fun bx o => h.obj.place bx o
  have w1 := fun a b c => within_eq'' (X := X) a b c σ
  have hex : EE X f_impl_isExpression [int nd.kind] σ = some (.bool (exprK nd.kind), σ) := by
    rw [EE, Ex_run C_impl_isExpression rfl]
    simp (config := {contextual := true, implicitDefEqProofs := false, maxSteps := 1000000}) only [
    ↓PR0, ↓PR1, ↓PR2, PO0, PO1, PO2, PO3, idxV_str, result, resOf, allSome, number, upd, List.map, Option.bind_some, Nat.reduceAdd, Nat.reduceSub, Nat.reduceLeDiff, Nat.reduceLT, Nat.reduceEqDiff, Nat.zero_add, Nat.add_zero, Nat.le_refl, 
    reduceIte, ne_eq, not_false_eq_true, and_self, true_and, and_true, reduceCtorEq, cond_true, cond_false, c_impl_isExpression, w1]
    rfl
  have hst : EE X f_impl_isStatement [int nd.kind, .bool ob] σ = some (.bool (stateK nd.kind || (ob && nd.kind == 20)), σ) := by
    rw [EE, Ex_run C_impl_isStatement rfl]
    have e : (decide (11 ≤ nd.kind) && decide (nd.kind ≤ 19)) = stateK nd.kind := rfl
    simp (config := {contextual := true, implicitDefEqProofs := false, maxSteps := 1000000}) only [
    ↓PR0, ↓PR1, ↓PR2, PO0, PO1, PO2, PO3, idxV_str, result, resOf, allSome, number, upd, List.map, Option.bind_some, Nat.reduceAdd, Nat.reduceSub, Nat.reduceLeDiff, Nat.reduceLT, Nat.reduceEqDiff, Nat.zero_add, Nat.add_zero, Nat.le_refl, 
    reduceIte, ne_eq, not_false_eq_true, and_self, true_and, and_true, reduceCtorEq, cond_true, cond_false, c_impl_isStatement, w1, e]
    cases stateK nd.kind <;> cases ob <;> rfl
  rw [EE, Ex_run C_impl_checker_fits rfl]
  by_cases h1 : b = 101
  · subst h1
    have e1 : ((((101 : UInt8).toNat : Nat) : Int) == 101) = true := rfl
    have e2 : fitM 101 ob nd.kind = exprK nd.kind := rfl
    rw [e2]
    simp (config := {contextual := true, implicitDefEqProofs := false, maxSteps := 1000000}) only [
    ↓PR0, ↓PR1, ↓PR2, PO0, PO1, PO2, PO3, idxV_str, result, resOf, allSome, number, upd, List.map, Option.bind_some, Nat.reduceAdd, Nat.reduceSub, Nat.reduceLeDiff, Nat.reduceLT, Nat.reduceEqDiff, Nat.zero_add, Nat.add_zero, Nat.le_refl, 
    reduceIte, ne_eq, not_false_eq_true, and_self, true_and, and_true, reduceCtorEq, cond_true, cond_false, c_impl_checker_fits, pl, n1, n2, n3, n4, e1, hex]
  · have e1 : (((b.toNat : Nat) : Int) == 101) = false := by
      rw [beq_eq_false_iff_ne]; intro h; apply h1; apply UInt8.toNat_inj.1; have : b.toNat = 101 := by omega
      rw [this]; rfl
    by_cases h2 : b = 98
    · subst h2
      have e2 : ((((98 : UInt8).toNat : Nat) : Int) == 98) = true := rfl
      have e3 : fitM 98 ob nd.kind = (nd.kind == 18) := rfl
      rw [e3]
      simp (config := {contextual := true, implicitDefEqProofs := false, maxSteps := 1000000}) only [
    ↓PR0, ↓PR1, ↓PR2, PO0, PO1, PO2, PO3, idxV_str, result, resOf, allSome, number, upd, List.map, Option.bind_some, Nat.reduceAdd, Nat.reduceSub, Nat.reduceLeDiff, Nat.reduceLT, Nat.reduceEqDiff, Nat.zero_add, Nat.add_zero, Nat.le_refl, 
    reduceIte, ne_eq, not_false_eq_true, and_self, true_and, and_true, reduceCtorEq, cond_true, cond_false, c_impl_checker_fits, pl, n1, n2, n3, n4, e1, e2]
    · have e2 : (((b.toNat : Nat) : Int) == 98) = false := by
        rw [beq_eq_false_iff_ne]; intro h; apply h2; apply UInt8.toNat_inj.1; have : b.toNat = 98 := by omega
        rw [this]; rfl
      have e3 : fitM b ob nd.kind = (stateK nd.kind || (ob && nd.kind == 20)) := by simp [fitM, h1, h2]
      rw [e3]
      simp (config := {contextual := true, implicitDefEqProofs := false, maxSteps := 1000000}) only [
    ↓PR0, ↓PR1, ↓PR2, PO0, PO1, PO2, PO3, idxV_str, result, resOf, allSome, number, upd, List.map, Option.bind_some, Nat.reduceAdd, Nat.reduceSub, Nat.reduceLeDiff, Nat.reduceLT, Nat.reduceEqDiff, Nat.zero_add, Nat.add_zero, Nat.le_refl, 
    reduceIte, ne_eq, not_false_eq_true, and_self, true_and, and_true, reduceCtorEq, cond_true, cond_false, c_impl_checker_fits, pl, n1, n2, n3, n4, e1, e2, hst]
end Go.X
