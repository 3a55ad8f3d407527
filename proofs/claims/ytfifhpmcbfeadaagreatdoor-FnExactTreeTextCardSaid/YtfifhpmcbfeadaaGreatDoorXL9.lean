/- Right trees: TreeOK of the program. -/
import Derived.Test.YtfifhpmcbfeadaaGreatDoorXL8
set_option linter.unusedVariables false
set_option linter.unusedSimpArgs false
set_option maxRecDepth 20000
namespace Go.X
open Go
variable {X : Call}

/-- What the program's walk does with so much depth left. -/
def WalkI (X : Call) (τ : Store) (m : TreeM) (a : AV) (r sr f : Nat) : Prop := ∀ s (k : Nat) vis σ nd, Chk τ m a r sr vis σ → m.nodes[k]? = some nd → rightM s nd.kind = true →
  ∃ σ', EE X f_impl_checker_walk [.ptr r 0 0 0, int k, int (201 - (f : Int))] σ = some (.bool (walkM m f s k vis).isSome, σ') ∧ Fr (fun x => τ.length ≤ x) σ σ' ∧ ∀ vis', walkM m f s k vis = some vis' → Chk τ m a r sr vis' σ'
theorem walkM_out {m : TreeM} {f : Nat} {s c : Int} {vis : List Nat} (h : ¬ (0 ≤ c ∧ c < m.nodes.length)) : walkM m f s c vis = none := by
  cases f with
  | zero => rfl
  | succ f => simp only [walkM]; rw [if_neg h]
theorem walkM_wrong {m : TreeM} {f : Nat} {s : Int} {k : Nat} {vis : List Nat} {nd : NodeM} (hk : m.nodes[k]? = some nd) (h : rightM s nd.kind = false) : walkM m f s k vis = none := by
  cases f with
  | zero => rfl
  | succ f =>
    have hlt := (List.getElem?_eq_some_iff.1 hk).1
    simp only [walkM]
    rw [if_pos (by omega), Int.toNat_natCast, hk]
    simp [h]
theorem walkI_loop {R : Type} {τ : Store} {m : TreeM} {a : AV} {r sr f : Nat} (hT : RTree τ m [a, int m.root]) (hs : m.size ≤ 1048576) (hf : f ≤ 200) (ih : WalkI X τ m a r sr f) {kn : Nat} {nd : NodeM} (hkn : m.nodes[kn]? = some nd) {ak : AV} (hak : RS RI 1 τ nd.kids ak)
    (hlen : (sortsM nd).length = nd.kids.length) : ∀ d i vis σ, i + d = nd.kids.length → Chk τ m a r sr vis σ → ∃ σ', Fr (fun x => τ.length ≤ x) σ σ' ∧
      ((walkL (walkM m f) m.root kn ((sortsM nd).drop i) (nd.kids.drop i) vis = none ∧ ∀ kk : Out → S → Option R,
        loopK (EE X) [0, 1, 2, 8, 50, 51, 52] l_impl_checker_walk_0 ([(0, .v (.ptr r 0 0 0)), (1, .v (int kn)), (2, .v (int (200 - (f : Int)))), (8, .v (.str (kindsI nd))), (50, .v ak), (51, .v (int nd.kids.length)), (52, .v (int i))], ⟨[], σ⟩) kk = kk .ret ([(6, .v (.bool false))], ⟨[], σ'⟩)) ∨
       ∃ vis', walkL (walkM m f) m.root kn ((sortsM nd).drop i) (nd.kids.drop i) vis = some vis' ∧ Chk τ m a r sr vis' σ' ∧ ∀ kk : Out → S → Option R,
        loopK (EE X) [0, 1, 2, 8, 50, 51, 52] l_impl_checker_walk_0 ([(0, .v (.ptr r 0 0 0)), (1, .v (int kn)), (2, .v (int (200 - (f : Int)))), (8, .v (.str (kindsI nd))), (50, .v ak), (51, .v (int nd.kids.length)), (52, .v (int i))], ⟨[], σ⟩) kk =
          kk (.exit 0) ([(0, .v (.ptr r 0 0 0)), (1, .v (int kn)), (2, .v (int (200 - (f : Int)))), (8, .v (.str (kindsI nd))), (50, .v ak), (51, .v (int nd.kids.length)), (52, .v (int nd.kids.length)), (53, .v (.bool false))], ⟨[], σ'⟩)) := by
  have hkl := (kindsI_len nd).2 hlen
  have hkm := kindsI_map nd hlen
  have hnl : nd.kids.length ≤ 1048576 := by have := NodeM.size_le hkn hs; simp only [NodeM.size] at this; omega
  have hml : m.nodes.length ≤ 1048576 := by simp only [TreeM.size] at hs; omega
  obtain ⟨tl, tc⟩ := hT.len
  intro d
  induction d with
  | zero =>
    intro i vis σ hi hc
    have e : i = nd.kids.length := by omega
    subst e
    refine ⟨σ, Fr.refl _ _, .inr ⟨vis, by rw [List.drop_length]; simp [walkL], hc, fun kk => ?_⟩⟩
    rw [loopK_step l_impl_checker_walk_0.eq_1]
    simp (config := {contextual := true, implicitDefEqProofs := false, maxSteps := 1000000}) only [
    ↓PR0, ↓PR1, ↓PR2, PO0, PO1, PO2, PO3, idxV_str, result, resOf, allSome, number, upd, List.map, Option.bind_some, Nat.reduceAdd, Nat.reduceSub, Nat.reduceLeDiff, Nat.reduceLT, Nat.reduceEqDiff, Nat.zero_add, Nat.add_zero, Nat.le_refl, 
    reduceIte, ne_eq, not_false_eq_true, and_self, true_and, and_true, reduceCtorEq, cond_true, cond_false, Int.lt_irrefl, decide_false]
  | succ d ihd =>
    intro i vis σ hi hc
    have hlt : i < nd.kids.length := by omega
    have hlt' : (i : Int) < (nd.kids.length : Int) := by omega
    have hw : IntKind.i64.wrap ((i : Int) + 1) = ((i + 1 : Nat) : Int) := wrap64 (by omega) (by omega)
    have hwd : IntKind.i64.wrap (200 - (f : Int) + 1) = 201 - (f : Int) := by rw [wrap64 (by omega) (by omega)]; omega
    have hwl : IntKind.i64.wrap ((m.nodes.length : Int) - 1) = (m.nodes.length : Int) - 1 := wrap64 (by omega) (by omega)
    obtain ⟨c1, ⟨hp, _⟩, ha1, ha2, _⟩ := (hak.pre (RP.mono _ _) hc.pre).get (List.getElem?_eq_getElem hlt)
    subst hp
    have pl := fun bx o => hc.obj.place bx o
    have w1 := fun a b c => within_eq'' (X := X) a b c σ
    have hkb : i < (kindsI nd).length := by omega
    have hix := idx_nat (kindsI nd) hkb
    have hsl : i < (sortsM nd).length := by omega
    have hsb : (sortsM nd)[i] = sortB (kindsI nd)[i] := by
      have : (sortsM nd)[i]? = ((kindsI nd).map sortB)[i]? := by rw [hkm]
      rw [List.getElem?_eq_getElem hsl, List.getElem?_map, List.getElem?_eq_getElem hkb] at this
      simpa using this
    rw [List.drop_eq_getElem_cons hlt, List.drop_eq_getElem_cons hsl]
    simp only [walkL]
    by_cases hin : 0 ≤ nd.kids[i] ∧ nd.kids[i] < m.nodes.length
    · have hd1 : (decide (0 ≤ nd.kids[i]) && decide (nd.kids[i] ≤ (m.nodes.length : Int) - 1)) = true := by
        rw [Bool.and_eq_true, decide_eq_true_eq, decide_eq_true_eq]; omega
      obtain ⟨c, hcn⟩ := Int.eq_ofNat_of_zero_le hin.1
      rw [hcn] at hin hd1 ha2 ⊢
      have hcl : c < m.nodes.length := by omega
      have hkc := List.getElem?_eq_getElem hcl
      have hfit := fits_eq (X := X) hT hc hkc (kindsI nd)[i] ((kn : Int) == m.root)
      rw [fitM_right, ← hsb] at hfit
      cases hb : rightM (adjM m.root kn (sortsM nd)[i]) m.nodes[c].kind with
      | false =>
        rw [hb] at hfit
        refine ⟨σ, Fr.refl _ _, .inl ⟨by rw [walkM_wrong hkc hb]; rfl, fun kk => ?_⟩⟩
        rw [loopK_step l_impl_checker_walk_0.eq_1]
        simp (config := {contextual := true, implicitDefEqProofs := false, maxSteps := 1000000}) only [
    ↓PR0, ↓PR1, ↓PR2, PO0, PO1, PO2, PO3, result, resOf, allSome, number, upd, List.map, Option.bind_some, Nat.reduceAdd, Nat.reduceSub, Nat.reduceLeDiff, Nat.reduceLT, Nat.reduceEqDiff, Nat.zero_add, Nat.add_zero, Nat.le_refl, reduceIte, 
    ne_eq, not_false_eq_true, and_self, true_and, and_true, reduceCtorEq, cond_true, cond_false, hlt', decide_true, ha1, ha2, pl, tl, hwl, w1, hd1, Bool.not_true, hix, hfit, Bool.not_false]
      | true =>
        rw [hb] at hfit
        obtain ⟨σ1, g1, g2, g3⟩ := ih _ c vis σ _ hc hkc hb
        cases hwk : walkM m f (adjM m.root kn (sortsM nd)[i]) c vis with
        | none =>
          rw [hwk, Option.isSome_none] at g1
          refine ⟨σ1, g2, .inl ⟨rfl, fun kk => ?_⟩⟩
          rw [loopK_step l_impl_checker_walk_0.eq_1]
          simp (config := {contextual := true, implicitDefEqProofs := false, maxSteps := 1000000}) only [
    ↓PR0, ↓PR1, ↓PR2, PO0, PO1, PO2, PO3, result, resOf, allSome, number, upd, List.map, Option.bind_some, Nat.reduceAdd, Nat.reduceSub, Nat.reduceLeDiff, Nat.reduceLT, Nat.reduceEqDiff, Nat.zero_add, Nat.add_zero, Nat.le_refl, reduceIte, 
    ne_eq, not_false_eq_true, and_self, true_and, and_true, reduceCtorEq, cond_true, cond_false, hlt', decide_true, ha1, ha2, pl, tl, hwl, w1, hd1, Bool.not_true, hix, hfit, hwd, g1, Bool.not_false]
        | some v1 =>
          rw [hwk] at g1
          obtain ⟨σ', f1, f2⟩ := ihd (i + 1) v1 σ1 (by omega) (g3 v1 hwk)
          rw [Option.bind_some]
          rcases f2 with ⟨f2, f3⟩ | ⟨vis', f2, f3, f4⟩
          · refine ⟨σ', g2.step f1, .inl ⟨f2, fun kk => ?_⟩⟩
            rw [← f3 kk, loopK_step l_impl_checker_walk_0.eq_1]
            simp (config := {contextual := true, implicitDefEqProofs := false, maxSteps := 1000000}) only [
    ↓PR0, ↓PR1, ↓PR2, PO0, PO1, PO2, PO3, result, resOf, allSome, number, upd, List.map, Option.bind_some, Nat.reduceAdd, Nat.reduceSub, Nat.reduceLeDiff, Nat.reduceLT, Nat.reduceEqDiff, Nat.zero_add, Nat.add_zero, Nat.le_refl, reduceIte, 
    ne_eq, not_false_eq_true, and_self, true_and, and_true, reduceCtorEq, cond_true, cond_false, hlt', decide_true, ha1, ha2, pl, tl, hwl, w1, hd1, Bool.not_true, hix, hfit, hwd, g1, hw]
          · refine ⟨σ', g2.step f1, .inr ⟨vis', f2, f3, fun kk => ?_⟩⟩
            rw [← f4 kk, loopK_step l_impl_checker_walk_0.eq_1]
            simp (config := {contextual := true, implicitDefEqProofs := false, maxSteps := 1000000}) only [
    ↓PR0, ↓PR1, ↓PR2, PO0, PO1, PO2, PO3, result, resOf, allSome, number, upd, List.map, Option.bind_some, Nat.reduceAdd, Nat.reduceSub, Nat.reduceLeDiff, Nat.reduceLT, Nat.reduceEqDiff, Nat.zero_add, Nat.add_zero, Nat.le_refl, reduceIte, 
    ne_eq, not_false_eq_true, and_self, true_and, and_true, reduceCtorEq, cond_true, cond_false, hlt', decide_true, ha1, ha2, pl, tl, hwl, w1, hd1, Bool.not_true, hix, hfit, hwd, g1, hw]
    · have hd1 : (decide (0 ≤ nd.kids[i]) && decide (nd.kids[i] ≤ (m.nodes.length : Int) - 1)) = false := by
        rw [Bool.and_eq_false_iff, decide_eq_false_iff_not, decide_eq_false_iff_not]; omega
      refine ⟨σ, Fr.refl _ _, .inl ⟨by rw [walkM_out hin]; rfl, fun kk => ?_⟩⟩
      rw [loopK_step l_impl_checker_walk_0.eq_1]
      simp (config := {contextual := true, implicitDefEqProofs := false, maxSteps := 1000000}) only [
    ↓PR0, ↓PR1, ↓PR2, PO0, PO1, PO2, PO3, result, resOf, allSome, number, upd, List.map, Option.bind_some, Nat.reduceAdd, Nat.reduceSub, Nat.reduceLeDiff, Nat.reduceLT, Nat.reduceEqDiff, Nat.zero_add, Nat.add_zero, Nat.le_refl, reduceIte, 
    ne_eq, not_false_eq_true, and_self, true_and, and_true, reduceCtorEq, cond_true, cond_false, hlt', decide_true, ha1, ha2, pl, tl, hwl, w1, hd1, Bool.not_false]
theorem walkI_all (hX : RepX X) {τ : Store} {m : TreeM} {a : AV} {r sr : Nat} (hT : RTree τ m [a, int m.root]) (hs : m.size ≤ 1048576) : ∀ f, f ≤ 200 → WalkI X τ m a r sr f := by
  intro f
  induction f with
  | zero =>
    intro _ s k vis σ nd hc hk hr
    obtain ⟨an, ak, hrn, _, hak, hn⟩ := hT.node hk
    obtain ⟨n1, n2, n3, n4⟩ := hn σ hc.pre
    have pl := fun bx o => hc.obj.place bx o
    have hlt := (List.getElem?_eq_some_iff.1 hk).1
    obtain ⟨cs, ⟨hp, _⟩, s1, s2, _⟩ := hc.seen.rs.get (seenL_get m.nodes.length vis k hlt)
    subst hp
    have cn := hrn
    refine ⟨σ, ?_, Fr.refl _ _, fun vis' h => by simp [walkM] at h⟩
    have h201 : (200 : Int) < 201 - ((0 : Nat) : Int) := by decide
    have hcl : (nc nd an ak).length = 5 := rfl
    rw [EE, Ex_run C_impl_checker_walk rfl]
    simp (config := {contextual := true, implicitDefEqProofs := false, maxSteps := 1000000}) only [
    ↓PR0, ↓PR1, ↓PR2, PO0, PO1, PO2, PO3, idxV_str, result, resOf, allSome, number, upd, List.map, Option.bind_some, Nat.reduceAdd, Nat.reduceSub, Nat.reduceLeDiff, Nat.reduceLT, Nat.reduceEqDiff, Nat.zero_add, Nat.add_zero, Nat.le_refl, 
    reduceIte, ne_eq, not_false_eq_true, and_self, true_and, and_true, reduceCtorEq, cond_true, cond_false, c_impl_checker_walk, pl, n1, n2, n3, n4, ld_all hcl, s1, s2, h201, decide_true]
    cases vis.contains k <;> rfl
  | succ f ih =>
    intro hf s k vis σ nd hc hk hr
    have ih' := ih (by omega)
    obtain ⟨an, ak, hrn, _, hak, hn⟩ := hT.node hk
    obtain ⟨n1, n2, n3, n4⟩ := hn σ hc.pre
    have pl := fun bx o => hc.obj.place bx o
    have hlt := (List.getElem?_eq_some_iff.1 hk).1
    obtain ⟨cs, ⟨hp, _⟩, s1, s2, _⟩ := hc.seen.rs.get (seenL_get m.nodes.length vis k hlt)
    subst hp
    have h201 : ¬ ((200 : Int) < 201 - ((f + 1 : Nat) : Int)) := by omega
    have hcl : (nc nd an ak).length = 5 := rfl
    have hsz := NodeM.size_le hk hs
    obtain ⟨σ1, g1, g2⟩ := fieldsOK_eq (X := X) σ nd _ (RNode.mono.pre hrn hc.pre) hsz
    have c1 := hc.next g2
    obtain ⟨σ2, m1, m2, m3⟩ := c1.seen.mark hlt
    have c2 : Chk τ m a r sr (k :: vis) σ2 := ⟨c1.obj.fr m3 (fun h => c1.ne h), m2, c1.pre.low (m3.weak (fun x _ h => by rw [h]; exact c1.hs)), c1.hr, c1.hs, c1.ne⟩
    have pl1 := fun bx o => c1.obj.place bx o
    have pl2 := fun bx o => c2.obj.place bx o
    have ia1 := c1.seen.rs.iadr .i64 (i := k) (by rw [seenL_len]; exact hlt)
    have kk := kidKinds_eq (X := X) hX σ2 nd _ (RNode.mono.pre hrn c2.pre) hsz
    have hkl := hak.len
    have hkc := hak.cellsOf
    have fr1 : Fr (fun x => τ.length ≤ x) σ σ1 := g2.up
    have fr2 : Fr (fun x => τ.length ≤ x) σ σ2 := fr1.step (m3.weak (fun x _ h => by rw [h]; exact c1.hs))
    have hwm : walkM m (f + 1) s k vis = if (rightM s nd.kind && (!(vis.contains k) && (nodeOK nd && decide ((sortsM nd).length = nd.kids.length)))) = true then walkL (walkM m f) m.root k (sortsM nd) nd.kids (k :: vis) else none := by
      simp only [walkM]
      rw [if_pos (by omega), Int.toNat_natCast, hk]
    rw [hwm, hr, Bool.true_and]
    cases hv : vis.contains k with
    | true =>
      refine ⟨σ, ?_, Fr.refl _ _, fun vis' h => by simp at h⟩
      rw [hv] at s2
      rw [EE, Ex_run C_impl_checker_walk rfl]
      simp (config := {contextual := true, implicitDefEqProofs := false, maxSteps := 1000000}) only [
    ↓PR0, ↓PR1, ↓PR2, PO0, PO1, PO2, PO3, idxV_str, result, resOf, allSome, number, upd, List.map, Option.bind_some, Nat.reduceAdd, Nat.reduceSub, Nat.reduceLeDiff, Nat.reduceLT, Nat.reduceEqDiff, Nat.zero_add, Nat.add_zero, Nat.le_refl, 
    reduceIte, ne_eq, not_false_eq_true, and_self, true_and, and_true, reduceCtorEq, cond_true, cond_false, c_impl_checker_walk, pl, n1, n2, n3, n4, ld_all hcl, s1, s2, h201, decide_false]
      rfl
    | false =>
      rw [hv] at s2
      cases hok : nodeOK nd with
      | false =>
        rw [hok] at g1
        refine ⟨σ1, ?_, fr1, fun vis' h => by simp at h⟩
        rw [EE, Ex_run C_impl_checker_walk rfl]
        simp (config := {contextual := true, implicitDefEqProofs := false, maxSteps := 1000000}) only [
    ↓PR0, ↓PR1, ↓PR2, PO0, PO1, PO2, PO3, idxV_str, result, resOf, allSome, number, upd, List.map, Option.bind_some, Nat.reduceAdd, Nat.reduceSub, Nat.reduceLeDiff, Nat.reduceLT, Nat.reduceEqDiff, Nat.zero_add, Nat.add_zero, Nat.le_refl, 
    reduceIte, ne_eq, not_false_eq_true, and_self, true_and, and_true, reduceCtorEq, cond_true, cond_false, c_impl_checker_walk, pl, n1, n2, n3, n4, ld_all hcl, s1, s2, h201, decide_false, g1, Bool.not_false]
        rfl
      | true =>
        rw [hok] at g1
        by_cases hl : (sortsM nd).length = nd.kids.length
        · have hl' := (kindsI_len nd).2 hl
          have hne : (((kindsI nd).length : Int) != (nd.kids.length : Int)) = false := by rw [hl']; simp
          obtain ⟨σ3, q1, q2⟩ := walkI_loop (X := X) (R := AV × Store) hT hs (by omega) ih' hk hak hl nd.kids.length 0 (k :: vis) σ2 (by omega) c2
          have hdeep : (201 : Int) - ((f + 1 : Nat) : Int) = 200 - (f : Int) := by omega
          rw [hdeep]
          simp only [List.drop_zero, Int.cast_ofNat_Int] at q2
          have h200 : ¬ ((200 : Int) < 200 - (f : Int)) := by omega
          have hdt : decide ((sortsM nd).length = nd.kids.length) = true := decide_eq_true hl
          rw [hdt]
          simp only [Bool.not_false, Bool.and_self, if_true]
          refine ⟨σ3, ?_, fr2.step q1, ?_⟩
          · rcases q2 with ⟨q2, q3⟩ | ⟨vis', q2, q3, q4⟩
            · rw [q2, EE, Ex_run C_impl_checker_walk rfl]
              simp (config := {contextual := true, implicitDefEqProofs := false, maxSteps := 1000000}) only [
    ↓PR0, ↓PR1, ↓PR2, PO0, PO1, PO2, PO3, idxV_str, result, resOf, allSome, number, upd, List.map, Option.bind_some, Nat.reduceAdd, Nat.reduceSub, Nat.reduceLeDiff, Nat.reduceLT, Nat.reduceEqDiff, Nat.zero_add, Nat.add_zero, Nat.le_refl, 
    reduceIte, ne_eq, not_false_eq_true, and_self, true_and, and_true, reduceCtorEq, cond_true, cond_false, c_impl_checker_walk, pl, n1, n2, n3, n4, ld_all hcl, s1, s2, h200, decide_false, g1, Bool.not_true, pl1, ia1, m1, kk, hkl, hne, q3]
              rfl
            · rw [q2, EE, Ex_run C_impl_checker_walk rfl]
              simp (config := {contextual := true, implicitDefEqProofs := false, maxSteps := 1000000}) only [
    ↓PR0, ↓PR1, ↓PR2, PO0, PO1, PO2, PO3, idxV_str, result, resOf, allSome, number, upd, List.map, Option.bind_some, Nat.reduceAdd, Nat.reduceSub, Nat.reduceLeDiff, Nat.reduceLT, Nat.reduceEqDiff, Nat.zero_add, Nat.add_zero, Nat.le_refl, 
    reduceIte, ne_eq, not_false_eq_true, and_self, true_and, and_true, reduceCtorEq, cond_true, cond_false, c_impl_checker_walk, pl, n1, n2, n3, n4, ld_all hcl, s1, s2, h200, decide_false, g1, Bool.not_true, pl1, ia1, m1, kk, hkl, hne, q4]
          · intro vis' h
            rcases q2 with ⟨q2, q3⟩ | ⟨vis2, q2, q3, q4⟩
            · rw [q2] at h; cases h
            · rw [q2] at h; cases h; exact q3
        · have hl' : ¬ (kindsI nd).length = nd.kids.length := fun h => hl ((kindsI_len nd).1 h)
          have hne : (((kindsI nd).length : Int) != (nd.kids.length : Int)) = true := by rw [bne_iff_ne]; omega
          have hdt : decide ((sortsM nd).length = nd.kids.length) = false := decide_eq_false hl
          rw [hdt]
          refine ⟨σ2, ?_, fr2, fun vis' h => by simp at h⟩
          rw [EE, Ex_run C_impl_checker_walk rfl]
          simp (config := {contextual := true, implicitDefEqProofs := false, maxSteps := 1000000}) only [
    ↓PR0, ↓PR1, ↓PR2, PO0, PO1, PO2, PO3, idxV_str, result, resOf, allSome, number, upd, List.map, Option.bind_some, Nat.reduceAdd, Nat.reduceSub, Nat.reduceLeDiff, Nat.reduceLT, Nat.reduceEqDiff, Nat.zero_add, Nat.add_zero, Nat.le_refl, 
    reduceIte, ne_eq, not_false_eq_true, and_self, true_and, and_true, reduceCtorEq, cond_true, cond_false, c_impl_checker_walk, pl, n1, n2, n3, n4, ld_all hcl, s1, s2, h201, decide_false, g1, Bool.not_true, pl1, ia1, m1, kk, hkl, hne]
          rfl
theorem seenL_nil (n : Nat) : (seenL n []).map (fun b => [AV.bool b]) = List.replicate n [.bool false] := by
  simp only [seenL, List.map_map]
  apply List.ext_getElem?
  intro i
  by_cases h : i < n
  · simp [h]
  · rw [List.getElem?_eq_none (by simp; omega), List.getElem?_eq_none (by simp; omega)]
theorem contB_eq (σ : Store) (l : List Bool) (a : AV) (t : Bool) (ha : RS RB 1 σ l a) (hn : l.length ≤ 1000000000000) : EE X f_slices_Contains_bool [a, .bool t] σ = some (.bool (l.any (fun x => t == x)), σ) :=
  containsE (C := CC) (X := X) C_slices_Contains_bool C_slices_Index_bool cmp_bool σ l a t ha hn
theorem implTreeOK_eq (hX : RepX X) (σ : Store) (m : TreeM) (cs : List AV) (h : RTree σ m cs) (hs : m.size ≤ 1048576) : ∃ σ', EE X f_impl_TreeOK [.agg cs] σ = some (.bool (treeOK m), σ') ∧ Pre σ σ' := by
  have h' := h
  obtain ⟨a, rfl, ha, hr, hl⟩ := h
  have hml : m.nodes.length ≤ 1048576 := by simp only [TreeM.size] at hs; omega
  have hwl : IntKind.i64.wrap ((m.nodes.length : Int) - 1) = (m.nodes.length : Int) - 1 := wrap64 (by omega) (by omega)
  have w1 := fun a b c => within_eq'' (X := X) a b c σ
  have hlen := ha.len
  have hc := ha.cellsOf
  by_cases h2 : 200 < m.nodes.length
  · have h2' : (200 : Int) < (m.nodes.length : Int) := by omega
    refine ⟨σ, ?_, Fr.refl _ _⟩
    have e : treeOK m = false := by simp only [treeOK]; rw [decide_eq_false (by omega), Bool.false_and]
    rw [e, EE, Ex_run C_impl_TreeOK rfl]
    simp (config := {contextual := true, implicitDefEqProofs := false, maxSteps := 1000000}) only [
    ↓PR0, ↓PR1, ↓PR2, PO0, PO1, PO2, PO3, idxV_str, result, resOf, allSome, number, upd, List.map, Option.bind_some, Nat.reduceAdd, Nat.reduceSub, Nat.reduceLeDiff, Nat.reduceLT, Nat.reduceEqDiff, Nat.zero_add, Nat.add_zero, Nat.le_refl, 
    reduceIte, ne_eq, not_false_eq_true, and_self, true_and, and_true, reduceCtorEq, cond_true, cond_false, c_impl_TreeOK, hlen, hc, h2', decide_true]
  · have h2' : ¬ (200 : Int) < (m.nodes.length : Int) := by omega
    have e0 : treeOK m = (match walkM m 200 2 m.root [] with | none => false | some vis => (List.range m.nodes.length).all (fun i => vis.contains i)) := by simp only [treeOK]; rw [decide_eq_true (by omega), Bool.true_and]; rfl
    by_cases hin : 0 ≤ m.root ∧ m.root < m.nodes.length
    · have hd1 : (decide (0 ≤ m.root) && decide (m.root ≤ (m.nodes.length : Int) - 1)) = true := by
        rw [Bool.and_eq_true, decide_eq_true_eq, decide_eq_true_eq]; omega
      obtain ⟨c, hcn⟩ := Int.eq_ofNat_of_zero_le hin.1
      have hcl : c < m.nodes.length := by omega
      have hkc := List.getElem?_eq_getElem hcl
      obtain ⟨an, ak, hrn, _, hak, hn⟩ := h'.node hkc
      obtain ⟨n1, n2, n3, n4⟩ := hn σ (Fr.refl _ _)
      rw [← hcn] at n1
      cases hk18 : (m.nodes[c].kind != 18) with
      | true =>
        refine ⟨σ, ?_, Fr.refl _ _⟩
        have hb : rightM 2 m.nodes[c].kind = false := by
          have : (m.nodes[c].kind == 18) = false := by simpa using hk18
          simp [rightM, this]
        have e : treeOK m = false := by rw [e0, hcn, walkM_wrong hkc hb]
        rw [e, EE, Ex_run C_impl_TreeOK rfl]
        simp (config := {contextual := true, implicitDefEqProofs := false, maxSteps := 1000000}) only [
    ↓PR0, ↓PR1, ↓PR2, PO0, PO1, PO2, PO3, idxV_str, result, resOf, allSome, number, upd, List.map, Option.bind_some, Nat.reduceAdd, Nat.reduceSub, Nat.reduceLeDiff, Nat.reduceLT, Nat.reduceEqDiff, Nat.zero_add, Nat.add_zero, Nat.le_refl, 
    reduceIte, ne_eq, not_false_eq_true, and_self, true_and, and_true, reduceCtorEq, cond_true, cond_false, c_impl_TreeOK, hlen, hc, h2', decide_false, hwl, w1, hd1, Bool.not_true, n1, n2, n3, n4, hk18]
      | false =>
        have hb : rightM 2 m.nodes[c].kind = true := by
          have : (m.nodes[c].kind == 18) = true := by simpa using hk18
          simp [rightM, this]
        have hmk : (0 : Int) ≤ (m.nodes.length : Nat) ∧ ((m.nodes.length : Nat) : Int) ≤ (m.nodes.length : Nat) ∧ ((m.nodes.length : Nat) : Int) * ((1 : Nat) : Int) ≤ 140737488355328 ∧ ((m.nodes.length : Nat) : Int) ≤ 140737488355328 := by omega
        have o1 := ObjAt.new (σ ++ [(⟨List.replicate m.nodes.length [.bool false], 1, 0, .own⟩ : Row)]) [.nilsl, int 0, .nilsl]
        obtain ⟨σ3, p3, o3, f3, l3⟩ := o1.write 0 [a, int m.root, .sl σ.length 0 0 m.nodes.length] (by simp)
        have hp2 : Pre σ σ3 := (Pre.app σ _).trans ((Fr.app (fun _ => False) (σ ++ [(⟨List.replicate m.nodes.length [.bool false], 1, 0, .own⟩ : Row)]) _).trans f3 (fun r h1 h2 => by omega)) (fun r h1 h2 => h2)
        have hseen : SeenAt σ3 σ.length m.nodes.length [] := by
          unfold SeenAt
          rw [f3.2 σ.length (by simp) (by simp), List.getElem?_append_left (by simp), List.getElem?_append_right (Nat.le_refl _), Nat.sub_self, seenL_nil]; rfl
        have hck : Chk σ m a (σ ++ [(⟨List.replicate m.nodes.length [.bool false], 1, 0, .own⟩ : Row)]).length σ.length [] σ3 := ⟨o3, hseen, hp2, by simp, Nat.le_refl _, by simp⟩
        obtain ⟨σ4, g1, g2, g3⟩ := walkI_all (X := X) hX h' hs 200 (Nat.le_refl _) 2 c [] σ3 _ hck hkc hb
        have hp4 : Pre σ σ4 := hp2.low g2
        have pl3 := fun bx o => hck.obj.place bx o
        simp only [List.length_cons, List.length_nil, Nat.zero_add, Nat.reduceAdd] at p3
        have hdeep : (201 : Int) - ((200 : Nat) : Int) = 1 := rfl
        rw [hdeep, ← hcn] at g1
        refine ⟨σ4, ?_, hp4⟩
        rw [e0, EE, Ex_run C_impl_TreeOK rfl]
        cases hwk : walkM m 200 2 m.root [] with
        | none =>
          rw [hwk, Option.isSome_none] at g1
          simp (config := {contextual := true, implicitDefEqProofs := false, maxSteps := 1000000}) only [
    ↓PR0, ↓PR1, ↓PR2, PO0, PO1, PO2, PO3, idxV_str, result, resOf, allSome, number, upd, List.map, Option.bind_some, Nat.reduceAdd, Nat.reduceSub, Nat.reduceLeDiff, Nat.reduceLT, Nat.reduceEqDiff, Nat.zero_add, Nat.add_zero, Nat.le_refl, 
    reduceIte, ne_eq, not_false_eq_true, and_self, true_and, and_true, reduceCtorEq, cond_true, cond_false, c_impl_TreeOK, hlen, hc, h2', decide_false, hwl, w1, hd1, Bool.not_true, n1, n2, n3, n4, hk18, hmk, Int.toNat_natCast, p3, g1]
        | some vis =>
          rw [hwk] at g1
          have hc4 := g3 vis (by rw [← hcn]; exact hwk)
          have pl4 := fun bx o => hc4.obj.place bx o
          have hcb := contB_eq (X := X) σ4 _ _ false hc4.seen.rs (by rw [seenL_len]; omega)
          rw [seenL_all] at hcb
          simp (config := {contextual := true, implicitDefEqProofs := false, maxSteps := 1000000}) only [
    ↓PR0, ↓PR1, ↓PR2, PO0, PO1, PO2, PO3, idxV_str, result, resOf, allSome, number, upd, List.map, Option.bind_some, Nat.reduceAdd, Nat.reduceSub, Nat.reduceLeDiff, Nat.reduceLT, Nat.reduceEqDiff, Nat.zero_add, Nat.add_zero, Nat.le_refl, 
    reduceIte, ne_eq, not_false_eq_true, and_self, true_and, and_true, reduceCtorEq, cond_true, cond_false, c_impl_TreeOK, hlen, hc, h2', decide_false, hwl, w1, hd1, Bool.not_true, n1, n2, n3, n4, hk18, hmk, Int.toNat_natCast, p3, g1, pl4, 
    hcb, Bool.not_not]
    · have hd1 : (decide (0 ≤ m.root) && decide (m.root ≤ (m.nodes.length : Int) - 1)) = false := by
        rw [Bool.and_eq_false_iff, decide_eq_false_iff_not, decide_eq_false_iff_not]; omega
      refine ⟨σ, ?_, Fr.refl _ _⟩
      have e : treeOK m = false := by rw [e0, walkM_out hin]
      rw [e, EE, Ex_run C_impl_TreeOK rfl]
      simp (config := {contextual := true, implicitDefEqProofs := false, maxSteps := 1000000}) only [
    ↓PR0, ↓PR1, ↓PR2, PO0, PO1, PO2, PO3, idxV_str, result, resOf, allSome, number, upd, List.map, Option.bind_some, Nat.reduceAdd, Nat.reduceSub, Nat.reduceLeDiff, Nat.reduceLT, Nat.reduceEqDiff, Nat.zero_add, Nat.add_zero, Nat.le_refl, 
    reduceIte, ne_eq, not_false_eq_true, and_self, true_and, and_true, reduceCtorEq, cond_true, cond_false, c_impl_TreeOK, hlen, hc, h2', decide_false, hwl, w1, hd1, Bool.not_false]
end Go.X
