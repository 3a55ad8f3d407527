/- Trees: Comes of both, the law. -/
import Derived.Test.YtekcdlibmngkiaaXL20
set_option linter.unusedVariables false
set_option linter.unusedSimpArgs false
set_option maxRecDepth 20000
namespace Go.X
open Go
variable {X : Call}

def comesF (m : TreeM) (t : List UInt8) : List (List UInt8) := comesM m (cntN (namesM m) [] + 2) [] [t]
def comesV (m : TreeM) (from_ to : List UInt8) : Bool × Int :=
  if 65536 < from_.length ∨ 65536 < to.length then (false, 2)
  else if treeOK m = false then (false, 1)
  else if (namesM m).any (fun x => from_ == x) = false ∨ (namesM m).any (fun x => to == x) = false then (false, 11)
  else ((comesF m from_).any (fun x => to == x), 0)
theorem cnt0 (names : List (List UInt8)) : cntN names [] ≤ names.length := List.length_filter_le _ _
theorem treeComes_eq {τ σ : Store} {m : TreeM} {a : AV} {r : Nat} (hT : RTree τ m [a, int m.root]) (hR : RightT m) (hs : m.size ≤ 1048576) (hp : Pre τ σ) (hob : ObjAt σ r [a, int m.root]) (t : List UInt8) (ht : (namesM m).any (fun x => t == x) = true) :
    ∃ o σ', EE X f_impl_Tree_comes [.ptr r 0 0 0, .str t] σ = some (o, σ') ∧ Pre σ σ' ∧ RS RT 1 σ' (comesF m t) o ∧ (comesF m t).length ≤ 1048576 := by
  have q1 := Pre.app σ [(⟨[], 1, 0, .own⟩ : Row)]
  have w1 := OwR.new σ [] 1
  obtain ⟨na, σ2, g1, g2, g3⟩ := funcNames_eq (X := X) hT hR hs (hp.pre q1) (hob.pre q1)
  have q3 := Pre.app σ2 [(⟨[[.str t]], 1, 0, .own⟩ : Row)]
  have w3 := OwR.new σ2 [[.str t]] 1
  have hlt := hob.lt
  have l12 : σ.length < σ2.length := by have := g2.1; simp at this; omega
  have hna : Dep (fun x => ¬ Two2 σ.length σ2.length x) (σ2 ++ [(⟨[[.str t]], 1, 0, .own⟩ : Row)]) (fun st => RS RT 1 st (namesM m) na) := (g3.dep1.pre q3).wide (fun x _ hx h => by simp at hx; rcases h with h | h <;> omega)
  have hnl := (funcsM_len hR hs).2
  have hc0 := cnt0 (namesM m)
  obtain ⟨o', σ', f1, f2, f3, f3b, g, f4⟩ := implComes_loop (X := X) (R := AV × Store) (r := r) hT hR hs (q1 := σ.length) (q2 := σ2.length) (by omega) (by omega) (by omega) hp.1 (by have := hp.1; omega) na (cntN (namesM m) [] + 2) [] [t] _ _ _ (by simp only [List.length_cons, List.length_nil]; omega) (by omega) (okN_nil _) (fun x hx => by rw [List.mem_singleton] at hx; subst hx; exact ht) ((hp.pre q1).pre (g2.pre q3)) ((hob.pre q1).pre (g2.pre q3)) hna (fun x hx => by cases hx) (by simpa using (w1.pre g2).pre q3) (by simpa using w3)
  refine ⟨o', σ', ?_, (q1.pre (g2.pre q3)).trans f1 (fun x h1 h2 => by rcases h2 with h2 | h2 <;> omega), f2.rsT (fun x hx => names_lenOk hT hR (f3 x hx)), f3b.len hR hs⟩
  rw [EE, Ex_run C_impl_Tree_comes rfl]
  simp (config := {contextual := true, implicitDefEqProofs := false, maxSteps := 1000000}) only [
    ↓PR0, ↓PR1, ↓PR2, PO0, PO1, PO2, PO3, idxV_str, result, resOf, allSome, number, upd, List.map, Option.bind_some, Nat.reduceAdd, Nat.reduceSub, Nat.reduceLeDiff, Nat.reduceLT, Nat.reduceEqDiff, Nat.zero_add, Nat.add_zero, Nat.le_refl, 
    reduceIte, ne_eq, not_false_eq_true, and_self, true_and, and_true, reduceCtorEq, cond_true, cond_false, c_impl_Tree_comes, List.replicate_zero, g1, List.replicate_succ, List.set_cons_zero, f4]
theorem implComes_eq (hX : RepX X) (σ : Store) (m : TreeM) (cs : List AV) (fr to : List UInt8) (h : RTree σ m cs) (hs : m.size ≤ 1048576) : ∃ σ', EE X f_impl_Comes [.agg cs, .str fr, .str to] σ = some (.tup [.bool (comesV m fr to).1, int (comesV m fr to).2], σ') ∧ Pre σ σ' := by
  have h0 := h
  obtain ⟨a, rfl, ha, hr, hln⟩ := h0
  have hc := ha.cellsOf
  have o1 := ObjAt.new σ [a, int m.root]
  have q1 := Pre.app σ [(⟨[[a, int m.root]], [a, int m.root].length, 0, .own⟩ : Row)]
  obtain ⟨σ2, g1, g2⟩ := implTreeOK_eq (X := X) hX _ m _ (RTree.mono.pre h q1) hs
  have o2 := o1.pre g2
  have pl1 := fun bx o => o1.place bx o
  simp only [List.length_cons, List.length_nil, Nat.zero_add, Nat.reduceAdd] at g1 pl1
  by_cases h1 : 65536 < fr.length
  · have h1' : (65536 : Int) < (fr.length : Int) := by omega
    refine ⟨_, ?_, q1⟩
    rw [EE, Ex_run C_impl_Comes rfl]
    simp (config := {contextual := true, implicitDefEqProofs := false, maxSteps := 1000000}) only [
    ↓PR0, ↓PR1, ↓PR2, PO0, PO1, PO2, PO3, idxV_str, result, resOf, allSome, number, upd, List.map, Option.bind_some, Nat.reduceAdd, Nat.reduceSub, Nat.reduceLeDiff, Nat.reduceLT, Nat.reduceEqDiff, Nat.zero_add, Nat.add_zero, Nat.le_refl, 
    reduceIte, ne_eq, not_false_eq_true, and_self, true_and, and_true, reduceCtorEq, cond_true, cond_false, c_impl_Comes, hc, h1', decide_true]
    simp [comesV, h1]
  · have h1' : ¬ (65536 : Int) < (fr.length : Int) := by omega
    by_cases h2 : 65536 < to.length
    · have h2' : (65536 : Int) < (to.length : Int) := by omega
      refine ⟨_, ?_, q1⟩
      rw [EE, Ex_run C_impl_Comes rfl]
      simp (config := {contextual := true, implicitDefEqProofs := false, maxSteps := 1000000}) only [
    ↓PR0, ↓PR1, ↓PR2, PO0, PO1, PO2, PO3, idxV_str, result, resOf, allSome, number, upd, List.map, Option.bind_some, Nat.reduceAdd, Nat.reduceSub, Nat.reduceLeDiff, Nat.reduceLT, Nat.reduceEqDiff, Nat.zero_add, Nat.add_zero, Nat.le_refl, 
    reduceIte, ne_eq, not_false_eq_true, and_self, true_and, and_true, reduceCtorEq, cond_true, cond_false, c_impl_Comes, hc, h1', h2', decide_true, decide_false]
      simp [comesV, h2]
    · have h2' : ¬ (65536 : Int) < (to.length : Int) := by omega
      have e0 : comesV m fr to = if treeOK m = false then (false, 1) else if (namesM m).any (fun x => fr == x) = false ∨ (namesM m).any (fun x => to == x) = false then (false, 11) else ((comesF m fr).any (fun x => to == x), 0) := by
        unfold comesV; rw [if_neg (by omega)]
      rw [e0]
      cases ht : treeOK m with
      | false =>
        rw [ht] at g1
        refine ⟨σ2, ?_, q1.pre g2⟩
        rw [EE, Ex_run C_impl_Comes rfl]
        simp (config := {contextual := true, implicitDefEqProofs := false, maxSteps := 1000000}) only [
    ↓PR0, ↓PR1, ↓PR2, PO0, PO1, PO2, PO3, idxV_str, result, resOf, allSome, number, upd, List.map, Option.bind_some, Nat.reduceAdd, Nat.reduceSub, Nat.reduceLeDiff, Nat.reduceLT, Nat.reduceEqDiff, Nat.zero_add, Nat.add_zero, Nat.le_refl, 
    reduceIte, ne_eq, not_false_eq_true, and_self, true_and, and_true, reduceCtorEq, cond_true, cond_false, c_impl_Comes, hc, h1', h2', decide_false, pl1, g1, Bool.not_false]
      | true =>
        rw [ht] at g1
        have hR := treeOK_right ht
        rw [if_neg (by decide)]
        have hnl := (funcsM_len hR hs).2
        obtain ⟨n1, σ3, p1, p2, p3⟩ := funcNames_eq (X := X) (τ := σ) h hR hs (q1.pre g2) o2
        have c1 := contT_eq (X := X) σ3 (namesM m) n1 fr p3.1 (by omega)
        cases hf : (namesM m).any (fun x => fr == x) with
        | false =>
          rw [hf] at c1
          rw [if_pos (.inl rfl)]
          refine ⟨σ3, ?_, (q1.pre g2).pre p2⟩
          rw [EE, Ex_run C_impl_Comes rfl]
          simp (config := {contextual := true, implicitDefEqProofs := false, maxSteps := 1000000}) only [
    ↓PR0, ↓PR1, ↓PR2, PO0, PO1, PO2, PO3, idxV_str, result, resOf, allSome, number, upd, List.map, Option.bind_some, Nat.reduceAdd, Nat.reduceSub, Nat.reduceLeDiff, Nat.reduceLT, Nat.reduceEqDiff, Nat.zero_add, Nat.add_zero, Nat.le_refl, 
    reduceIte, ne_eq, not_false_eq_true, and_self, true_and, and_true, reduceCtorEq, cond_true, cond_false, c_impl_Comes, hc, h1', h2', decide_false, pl1, g1, Bool.not_true, p1, c1, Bool.not_false]
        | true =>
          rw [hf] at c1
          obtain ⟨n2, σ4, p4, p5, p6⟩ := funcNames_eq (X := X) (τ := σ) h hR hs ((q1.pre g2).pre p2) (o2.pre p2)
          have c2 := contT_eq (X := X) σ4 (namesM m) n2 to p6.1 (by omega)
          cases hto : (namesM m).any (fun x => to == x) with
          | false =>
            rw [hto] at c2
            rw [if_pos (.inr rfl)]
            refine ⟨σ4, ?_, ((q1.pre g2).pre p2).pre p5⟩
            rw [EE, Ex_run C_impl_Comes rfl]
            simp (config := {contextual := true, implicitDefEqProofs := false, maxSteps := 1000000}) only [
    ↓PR0, ↓PR1, ↓PR2, PO0, PO1, PO2, PO3, idxV_str, result, resOf, allSome, number, upd, List.map, Option.bind_some, Nat.reduceAdd, Nat.reduceSub, Nat.reduceLeDiff, Nat.reduceLT, Nat.reduceEqDiff, Nat.zero_add, Nat.add_zero, Nat.le_refl, 
    reduceIte, ne_eq, not_false_eq_true, and_self, true_and, and_true, reduceCtorEq, cond_true, cond_false, c_impl_Comes, hc, h1', h2', decide_false, pl1, g1, Bool.not_true, p1, c1, p4, c2, Bool.not_false]
          | true =>
            rw [hto] at c2
            rw [if_neg (by simp)]
            obtain ⟨o, σ5, k1, k2, k3, k4⟩ := treeComes_eq (X := X) (τ := σ) h hR hs (((q1.pre g2).pre p2).pre p5) ((o2.pre p2).pre p5) fr hf
            have c3 := contT_eq (X := X) σ5 (comesF m fr) o to k3 (by omega)
            refine ⟨σ5, ?_, (((q1.pre g2).pre p2).pre p5).pre k2⟩
            rw [EE, Ex_run C_impl_Comes rfl]
            simp (config := {contextual := true, implicitDefEqProofs := false, maxSteps := 1000000}) only [
    ↓PR0, ↓PR1, ↓PR2, PO0, PO1, PO2, PO3, idxV_str, result, resOf, allSome, number, upd, List.map, Option.bind_some, Nat.reduceAdd, Nat.reduceSub, Nat.reduceLeDiff, Nat.reduceLT, Nat.reduceEqDiff, Nat.zero_add, Nat.add_zero, Nat.le_refl, 
    reduceIte, ne_eq, not_false_eq_true, and_self, true_and, and_true, reduceCtorEq, cond_true, cond_false, c_impl_Comes, hc, h1', h2', decide_false, pl1, g1, Bool.not_true, p1, c1, p4, c2, k1, c3]

/-! ### The reference -/

theorem specKnown_loop {R : Type} {m : TreeM} {a : AV} (σ : Store) (seen : List (List UInt8)) (o : AV) (ho : RS RT 1 σ seen o) (hsl : seen.length ≤ 1048576) (l : List (List UInt8)) (la : AV) (hl : RS RT 1 σ l la) {j : Nat} {x : List UInt8} (hj : l[j]? = some x) (to : List UInt8) (t : AV) (kk : Out → S → Option R) : ∀ d i kn, i + d = seen.length →
    loopK (EE X) [2, 3, 8, 9, 10, 11, 12, 13] l_spec_Comes_0 ([(2, .v (.str to)), (3, .lp 3 0), (8, .v o), (9, .v t), (10, .v la), (11, .v (int j)), (12, .v (.bool kn)), (13, .v (int i))], ⟨[(3, [a, int m.root])], σ⟩) kk =
      kk (.exit 4) ([(2, .v (.str to)), (3, .lp 3 0), (8, .v o), (9, .v t), (10, .v la), (11, .v (int j)), (12, .v (.bool (kn || (seen.drop i).any (fun y => x == y)))), (13, .v (int seen.length)), (66, .v (.bool false))], ⟨[(3, [a, int m.root])], σ⟩) := by
  have olen := ho.len
  obtain ⟨c2, ⟨hp2, _⟩, l1, l2, _⟩ := hl.get hj
  subst hp2
  intro d
  induction d with
  | zero =>
    intro i kn hi
    have e : i = seen.length := by omega
    subst e
    rw [loopK_step l_spec_Comes_0.eq_1, List.drop_length, List.any_nil, Bool.or_false]
    simp (config := {contextual := true, implicitDefEqProofs := false, maxSteps := 1000000}) only [
    ↓PR0, ↓PR1, ↓PR2, PO0, PO1, PO2, PO3, idxV_str, result, resOf, allSome, number, upd, List.map, Option.bind_some, Nat.reduceAdd, Nat.reduceSub, Nat.reduceLeDiff, Nat.reduceLT, Nat.reduceEqDiff, Nat.zero_add, Nat.add_zero, Nat.le_refl, 
    reduceIte, ne_eq, not_false_eq_true, and_self, true_and, and_true, reduceCtorEq, cond_true, cond_false, olen, Int.lt_irrefl, decide_false]
  | succ d ih =>
    intro i kn hi
    have hlt : i < seen.length := by omega
    have hlt' : (i : Int) < (seen.length : Int) := by omega
    have hwi : IntKind.i64.wrap ((i : Int) + 1) = ((i + 1 : Nat) : Int) := wrap64 (by omega) (by omega)
    obtain ⟨c1, ⟨hp', _⟩, ha1, ha2, _⟩ := ho.get (List.getElem?_eq_getElem hlt)
    subst hp'
    have hbe : (seen[i] == x) = (x == seen[i]) := Bool.beq_comm
    have ih' := fun kn => ih (i + 1) kn (by omega)
    rw [loopK_step l_spec_Comes_0.eq_1, List.drop_eq_getElem_cons hlt, List.any_cons]
    cases kn with
    | true => simp (config := {contextual := true, implicitDefEqProofs := false, maxSteps := 1000000}) only [
    ↓PR0, ↓PR1, ↓PR2, PO0, PO1, PO2, PO3, idxV_str, result, resOf, allSome, number, upd, List.map, Option.bind_some, Nat.reduceAdd, Nat.reduceSub, Nat.reduceLeDiff, Nat.reduceLT, Nat.reduceEqDiff, Nat.zero_add, Nat.add_zero, Nat.le_refl, 
    reduceIte, ne_eq, not_false_eq_true, and_self, true_and, and_true, reduceCtorEq, cond_true, cond_false, olen, hlt', decide_true, hwi, ih', Bool.true_or]
    | false => simp (config := {contextual := true, implicitDefEqProofs := false, maxSteps := 1000000}) only [
    ↓PR0, ↓PR1, ↓PR2, PO0, PO1, PO2, PO3, idxV_str, result, resOf, allSome, number, upd, List.map, Option.bind_some, Nat.reduceAdd, Nat.reduceSub, Nat.reduceLeDiff, Nat.reduceLT, Nat.reduceEqDiff, Nat.zero_add, Nat.add_zero, Nat.le_refl, 
    reduceIte, ne_eq, not_false_eq_true, and_self, true_and, and_true, reduceCtorEq, cond_true, cond_false, olen, hlt', decide_true, ha1, ha2, l1, l2, hbe, hwi, ih', Bool.false_or]
theorem specAdd_loop {R : Type} {m : TreeM} {a : AV} {q1 q2 : Nat} (hs : m.size ≤ 1048576) (hR : RightT m) (hq : q1 ≠ q2) (to : List UInt8) (l : List (List UInt8)) (la : AV) (hl : ∀ x ∈ l, (namesM m).any (fun y => x == y) = true) (hln : l.length ≤ 1048576) :
    ∀ d i out todo (o t : AV) (σ : Store), i + d = l.length → okN (namesM m) out → todo.length + cntN (namesM m) out ≤ 1100000 → Dep (fun x => ¬ Two2 q1 q2 x) σ (fun st => RS RT 1 st l la) → (∀ x ∈ out, LenOk x.length) → OwR q1 σ 1 (cT out) o → OwR q2 σ 1 (cT todo) t →
    ∃ o' t' σ', Fr (Two2 q1 q2) σ σ' ∧ (((l.drop i).any (fun x => x == to) = true ∧ ∀ kk : Out → S → Option R,
      loopK (EE X) [2, 3, 8, 9, 10, 11] l_spec_Comes_1 ([(2, .v (.str to)), (3, .lp 3 0), (8, .v o), (9, .v t), (10, .v la), (11, .v (int i))], ⟨[(3, [a, int m.root])], σ⟩) kk = kk .ret ([(6, .v (.bool true)), (7, .v (int 0))], ⟨[], σ'⟩)) ∨
     ((l.drop i).any (fun x => x == to) = false ∧ OwR q1 σ' 1 (cT (addAll (l.drop i) out todo).1) o' ∧ OwR q2 σ' 1 (cT (addAll (l.drop i) out todo).2) t' ∧ ∀ kk : Out → S → Option R,
      loopK (EE X) [2, 3, 8, 9, 10, 11] l_spec_Comes_1 ([(2, .v (.str to)), (3, .lp 3 0), (8, .v o), (9, .v t), (10, .v la), (11, .v (int i))], ⟨[(3, [a, int m.root])], σ⟩) kk =
        kk (.exit 2) ([(2, .v (.str to)), (3, .lp 3 0), (8, .v o'), (9, .v t'), (10, .v la), (11, .v (int l.length)), (54, .v (.bool false))], ⟨[(3, [a, int m.root])], σ'⟩))) := by
  intro d
  induction d with
  | zero =>
    intro i out todo o t σ hi hok hb hla hlk ho ht
    have e : i = l.length := by omega
    subst e
    have ll := hla.self.len
    rw [List.drop_length]
    refine ⟨o, t, σ, Fr.refl _ _, .inr ⟨rfl, ho, ht, fun kk => ?_⟩⟩
    rw [loopK_step l_spec_Comes_1.eq_1]
    simp (config := {contextual := true, implicitDefEqProofs := false, maxSteps := 1000000}) only [
    ↓PR0, ↓PR1, ↓PR2, PO0, PO1, PO2, PO3, idxV_str, result, resOf, allSome, number, upd, List.map, Option.bind_some, Nat.reduceAdd, Nat.reduceSub, Nat.reduceLeDiff, Nat.reduceLT, Nat.reduceEqDiff, Nat.zero_add, Nat.add_zero, Nat.le_refl, 
    reduceIte, ne_eq, not_false_eq_true, and_self, true_and, and_true, reduceCtorEq, cond_true, cond_false, ll, Int.lt_irrefl, decide_false]
  | succ d ih =>
    intro i out todo o t σ hi hok hb hla hlk ho ht
    have ll := hla.self.len
    have hlt : i < l.length := by omega
    have hlt' : (i : Int) < (l.length : Int) := by omega
    have hwi : IntKind.i64.wrap ((i : Int) + 1) = ((i + 1 : Nat) : Int) := wrap64 (by omega) (by omega)
    have hg := List.getElem?_eq_getElem hlt
    obtain ⟨c1, ⟨hp', hlx⟩, ha1, ha2, _⟩ := hla.self.get hg
    subst hp'
    have hin := hl _ (List.getElem_mem hlt)
    rw [List.drop_eq_getElem_cons hlt, addAll, List.any_cons]
    cases hto : l[i] == to with
    | true =>
      refine ⟨o, t, σ, Fr.refl _ _, .inl ⟨rfl, fun kk => ?_⟩⟩
      rw [loopK_step l_spec_Comes_1.eq_1]
      simp (config := {contextual := true, implicitDefEqProofs := false, maxSteps := 1000000}) only [
    ↓PR0, ↓PR1, ↓PR2, PO0, PO1, PO2, PO3, idxV_str, result, resOf, allSome, number, upd, List.map, Option.bind_some, Nat.reduceAdd, Nat.reduceSub, Nat.reduceLeDiff, Nat.reduceLT, Nat.reduceEqDiff, Nat.zero_add, Nat.add_zero, Nat.le_refl, 
    reduceIte, ne_eq, not_false_eq_true, and_self, true_and, and_true, reduceCtorEq, cond_true, cond_false, ll, hlt', decide_true, ha1, ha2, hto]
    | false =>
      have hol := hok.len hR hs
      have kn := fun kk => specKnown_loop (X := X) (R := R) (m := m) (a := a) σ out o (ho.rsT hlk) hol l la hla.self hg to t kk out.length 0 false (by omega)
      simp only [Int.cast_ofNat_Int, List.drop_zero, Bool.false_or] at kn
      rw [Bool.false_or]
      cases hc : out.any (fun x => l[i] == x) with
      | true =>
        rw [hc] at kn
        simp only [if_true]
        obtain ⟨o', t', σ', f1, f2⟩ := ih (i + 1) out todo o t σ (by omega) hok hb hla hlk ho ht
        refine ⟨o', t', σ', f1, ?_⟩
        rcases f2 with ⟨f2, f3⟩ | ⟨f2, f3, f4, f5⟩
        · refine .inl ⟨f2, fun kk => ?_⟩
          rw [← f3 kk, loopK_step l_spec_Comes_1.eq_1]
          simp (config := {contextual := true, implicitDefEqProofs := false, maxSteps := 1000000}) only [
    ↓PR0, ↓PR1, ↓PR2, PO0, PO1, PO2, PO3, idxV_str, result, resOf, allSome, number, upd, List.map, Option.bind_some, Nat.reduceAdd, Nat.reduceSub, Nat.reduceLeDiff, Nat.reduceLT, Nat.reduceEqDiff, Nat.zero_add, Nat.add_zero, Nat.le_refl, 
    reduceIte, ne_eq, not_false_eq_true, and_self, true_and, and_true, reduceCtorEq, cond_true, cond_false, ll, hlt', decide_true, ha1, ha2, hto, kn, Bool.not_true, hwi]
        · refine .inr ⟨f2, f3, f4, fun kk => ?_⟩
          rw [← f5 kk, loopK_step l_spec_Comes_1.eq_1]
          simp (config := {contextual := true, implicitDefEqProofs := false, maxSteps := 1000000}) only [
    ↓PR0, ↓PR1, ↓PR2, PO0, PO1, PO2, PO3, idxV_str, result, resOf, allSome, number, upd, List.map, Option.bind_some, Nat.reduceAdd, Nat.reduceSub, Nat.reduceLeDiff, Nat.reduceLT, Nat.reduceEqDiff, Nat.zero_add, Nat.add_zero, Nat.le_refl, 
    reduceIte, ne_eq, not_false_eq_true, and_self, true_and, and_true, reduceCtorEq, cond_true, cond_false, ll, hlt', decide_true, ha1, ha2, hto, kn, Bool.not_true, hwi]
      | false =>
        rw [hc] at kn
        simp only [Bool.false_eq_true, if_false]
        obtain ⟨o1, σ1, g1, g2, g3⟩ := ho.appT l[i] (by omega)
        have fr1 : Fr (Two2 q1 q2) σ σ1 := g3.weak (fun x _ h => .inl h)
        obtain ⟨c1, ⟨hp', _⟩, hb1, hb2, _⟩ := (hla.fr fr1 (fun x _ h h' => h h')).self.get hg
        cases hp'
        obtain ⟨t1, σ2, g4, g5, g6⟩ := (ht.fr g3 (fun e => hq e.symm)).appT l[i] (by omega)
        have hel : ∀ M, elsOf M 1 (.ls [[.str l[i]]]) = some [[.str l[i]]] := fun _ => rfl
        have hcn := cntN_add (namesM m) out l[i] hin hc
        have fr2 : Fr (Two2 q1 q2) σ σ2 := fr1.step (g6.weak (fun x _ h => .inr h))
        obtain ⟨o', t', σ', f1, f2⟩ := ih (i + 1) (out ++ [l[i]]) (todo ++ [l[i]]) o1 t1 σ2 (by omega) (hok.add hin hc) (by simp; omega) (hla.fr fr2 (fun x _ h h' => h h')) (fun x hx => by rcases List.mem_append.1 hx with hx | hx; exact hlk x hx; rw [List.mem_singleton] at hx; subst hx; exact hlx) (g2.fr g6 hq) g5
        refine ⟨o', t', σ', fr2.step f1, ?_⟩
        rcases f2 with ⟨f2, f3⟩ | ⟨f2, f3, f4, f5⟩
        · refine .inl ⟨f2, fun kk => ?_⟩
          rw [← f3 kk, loopK_step l_spec_Comes_1.eq_1]
          simp (config := {contextual := true, implicitDefEqProofs := false, maxSteps := 1000000}) only [
    ↓PR0, ↓PR1, ↓PR2, PO0, PO1, PO2, PO3, idxV_str, result, resOf, allSome, number, upd, List.map, Option.bind_some, Nat.reduceAdd, Nat.reduceSub, Nat.reduceLeDiff, Nat.reduceLT, Nat.reduceEqDiff, Nat.zero_add, Nat.add_zero, Nat.le_refl, 
    reduceIte, ne_eq, not_false_eq_true, and_self, true_and, and_true, reduceCtorEq, cond_true, cond_false, ll, hlt', decide_true, ha1, ha2, hto, kn, Bool.not_false, List.replicate_succ, List.replicate_zero, List.set_cons_zero, hel, g1, hb1, 
    hb2, g4, hwi]
        · refine .inr ⟨f2, f3, f4, fun kk => ?_⟩
          rw [← f5 kk, loopK_step l_spec_Comes_1.eq_1]
          simp (config := {contextual := true, implicitDefEqProofs := false, maxSteps := 1000000}) only [
    ↓PR0, ↓PR1, ↓PR2, PO0, PO1, PO2, PO3, idxV_str, result, resOf, allSome, number, upd, List.map, Option.bind_some, Nat.reduceAdd, Nat.reduceSub, Nat.reduceLeDiff, Nat.reduceLT, Nat.reduceEqDiff, Nat.zero_add, Nat.add_zero, Nat.le_refl, 
    reduceIte, ne_eq, not_false_eq_true, and_self, true_and, and_true, reduceCtorEq, cond_true, cond_false, ll, hlt', decide_true, ha1, ha2, hto, kn, Bool.not_false, List.replicate_succ, List.replicate_zero, List.set_cons_zero, hel, g1, hb1, 
    hb2, g4, hwi]
theorem specComes_loop {R : Type} {τ : Store} {m : TreeM} {a : AV} {q1 q2 : Nat} (hT : RTree τ m [a, int m.root]) (hR : RightT m) (hs : m.size ≤ 1048576) (hq : q1 ≠ q2) (ht1 : τ.length ≤ q1) (ht2 : τ.length ≤ q2) (to : List UInt8) :
    ∀ f out todo (o t : AV) (σ : Store), cntN (namesM m) out + todo.length < f → f ≤ 1050000 → okN (namesM m) out → (∀ x ∈ todo, (namesM m).any (fun y => x == y) = true) → Pre τ σ → (∀ x ∈ out, (namesM m).any (fun y => x == y) = true) → OwR q1 σ 1 (cT out) o → OwR q2 σ 1 (cT todo) t →
    ∃ σ', Fr (Two2 q1 q2) σ σ' ∧ ((scomes m to f out todo = true ∧ ∀ kk : Out → S → Option R,
      loopK (EE X) [2, 3, 8, 9] l_spec_Comes_2 ([(2, .v (.str to)), (3, .lp 3 0), (8, .v o), (9, .v t)], ⟨[(3, [a, int m.root])], σ⟩) kk = kk .ret ([(6, .v (.bool true)), (7, .v (int 0))], ⟨[], σ'⟩)) ∨
     (scomes m to f out todo = false ∧ ∃ g bx, ∀ kk : Out → S → Option R,
      loopK (EE X) [2, 3, 8, 9] l_spec_Comes_2 ([(2, .v (.str to)), (3, .lp 3 0), (8, .v o), (9, .v t)], ⟨[(3, [a, int m.root])], σ⟩) kk = kk (.exit 0) (g, ⟨bx, σ'⟩))) := by
  have tc := hT.len.2
  intro f
  induction f with
  | zero => intro out todo o t σ h; omega
  | succ f ih =>
    intro out todo o t σ hf hfb hok htd hp hin ho ht
    have tl := ht.slAt.len
    cases todo with
    | nil =>
      simp only [List.map_nil, List.length_nil] at tl
      have h00 : ¬ ((0 : Int) < ((0 : Nat) : Int)) := by decide
      refine ⟨σ, Fr.refl _ _, .inr ⟨rfl, [(2, .v (.str to)), (3, .lp 3 0), (8, .v o), (9, .v t), (40, .v (.bool false))], [(3, [a, int m.root])], fun kk => ?_⟩⟩
      rw [loopK_step l_spec_Comes_2.eq_1]
      simp (config := {contextual := true, implicitDefEqProofs := false, maxSteps := 1000000}) only [
    ↓PR0, ↓PR1, ↓PR2, PO0, PO1, PO2, PO3, idxV_str, result, resOf, allSome, number, upd, List.map, Option.bind_some, Nat.reduceAdd, Nat.reduceSub, Nat.reduceLeDiff, Nat.reduceLT, Nat.reduceEqDiff, Nat.zero_add, Nat.add_zero, Nat.le_refl, 
    reduceIte, ne_eq, not_false_eq_true, and_self, true_and, and_true, reduceCtorEq, cond_true, cond_false, tl, h00, decide_false]
    | cons t0 todo =>
      simp only [List.map_cons, List.length_cons, List.length_map] at tl
      have h01 : (0 : Int) < ((todo.length + 1 : Nat) : Int) := by omega
      have hft0 := htd t0 (by simp)
      have tds : ∀ x ∈ t0 :: todo, LenOk x.length := fun x hx => names_lenOk hT hR (htd x hx)
      obtain ⟨i, e1, e2⟩ := funcOf_at hR hft0
      have hget : (t0 :: todo)[0]? = some t0 := rfl
      obtain ⟨c0, ⟨hp0, _⟩, u1, u2, _⟩ := ((ht.rsT tds)).get hget
      subst hp0
      have qq := Pre.app σ [(⟨[], 1, 0, .own⟩ : Row)]
      obtain ⟨c0, ⟨hp0, _⟩, v1, v2, _⟩ := ((ht.pre qq).rsT tds).get hget
      subst hp0
      simp only [Int.cast_ofNat_Int] at u1 v1
      have lf1 := l04Func_eq (X := X) hT hR hs hp t0
      have lf2 := l04Func_eq (X := X) hT hR hs (hp.pre qq) t0
      have hfin := hR.funcIn (List.mem_of_getElem? e2)
      obtain ⟨fk, hfk⟩ := Int.eq_ofNat_of_zero_le hfin.1
      have nilr : RS RT 1 (σ ++ [(⟨[], 1, 0, .own⟩ : Row)]) [] (.sl σ.length 0 0 0) := ⟨[], by simpa using SlAt.new σ [] 1, .nil⟩
      obtain ⟨la, σ2, p1, p2, p3⟩ := callsS_all (X := X) (lo := σ.length) hT hR hs 200 fk [] _ _ (hR.downAt (by omega)) (hp.pre qq) (by simp) ⟨nilr, (OwR.new σ [] 1).ka (Nat.le_refl _) (by simp)⟩ (okN_nil _)
      rw [← hfk] at p1
      have hlo : callsM m 200 (fk : Nat) [] = listOf m t0 := by rw [← hfk]; rfl
      rw [hlo] at p2
      have pre12 := qq.pre p3
      have q1lt := ho.lt
      have q2lt := ht.lt
      have ho2 := ho.pre pre12
      have ht2' := ht.pre pre12
      have hsl := fun g => slc1 ht2'.slAt (n := todo.length) (by simp) g
      have hlin := listOf_in (m := m) t0
      have hlb : (listOf m t0).length ≤ 1048576 := callsM_len hR hs _ _
      have hla2 : Dep (fun x => ¬ Two2 q1 q2 x) σ2 (fun st => RS RT 1 st (listOf m t0) la) := p2.dep1.wide (fun x _ hx h => by rcases h with h | h <;> omega)
      obtain ⟨o3, t3, σ3, k1, k2⟩ := specAdd_loop (X := X) (R := R) (a := a) (m := m) hs hR hq to (listOf m t0) la hlin hlb (listOf m t0).length 0 out todo o _ σ2 (by omega) hok (by simp only [List.length_cons] at hf; omega) hla2 (fun x hx => names_lenOk hT hR (hin x hx)) ho2 ht2'.tail
      simp only [List.drop_zero, Int.cast_ofNat_Int] at k2
      have fr13 : Fr (Two2 q1 q2) σ σ3 := (Pre.up pre12).step k1
      simp only [scomes]
      rcases k2 with ⟨k2, k3⟩ | ⟨k2, k3, k4, k5⟩
      · refine ⟨σ3, fr13, .inl ⟨by rw [k2, Bool.true_or], fun kk => ?_⟩⟩
        rw [loopK_step l_spec_Comes_2.eq_1]
        simp (config := {contextual := true, implicitDefEqProofs := false, maxSteps := 1000000}) only [
    ↓PR0, ↓PR1, ↓PR2, PO0, PO1, PO2, PO3, idxV_str, result, resOf, allSome, number, upd, List.map, Option.bind_some, Nat.reduceAdd, Nat.reduceSub, Nat.reduceLeDiff, Nat.reduceLT, Nat.reduceEqDiff, Nat.zero_add, Nat.add_zero, Nat.le_refl, 
    reduceIte, ne_eq, not_false_eq_true, and_self, true_and, and_true, reduceCtorEq, cond_true, cond_false, tl, h01, decide_true, tc, u1, u2, v1, v2, lf1, lf2, List.replicate_zero, evG_iadr, p1, hsl, k3]
      · obtain ⟨a1, a2, a3⟩ := addAll_ok (listOf m t0) out todo hlin hok (fun x hx => htd x (by simp [hx]))
        have hin3 := addAll_sub (listOf m t0) out todo hlin hin
        obtain ⟨σ', f1, f2⟩ := ih _ _ o3 t3 σ3 (by simp only [List.length_cons] at hf; omega) (by omega) a1 a2 (hp.trans fr13 (fun x h1 h2 => by rcases h2 with h2 | h2 <;> omega)) hin3 k3 k4
        rw [k2, Bool.false_or]
        refine ⟨σ', fr13.step f1, ?_⟩
        rcases f2 with ⟨f2, f3⟩ | ⟨f2, g, bx, f3⟩
        · refine .inl ⟨f2, fun kk => ?_⟩
          rw [← f3 kk, loopK_step l_spec_Comes_2.eq_1]
          simp (config := {contextual := true, implicitDefEqProofs := false, maxSteps := 1000000}) only [
    ↓PR0, ↓PR1, ↓PR2, PO0, PO1, PO2, PO3, idxV_str, result, resOf, allSome, number, upd, List.map, Option.bind_some, Nat.reduceAdd, Nat.reduceSub, Nat.reduceLeDiff, Nat.reduceLT, Nat.reduceEqDiff, Nat.zero_add, Nat.add_zero, Nat.le_refl, 
    reduceIte, ne_eq, not_false_eq_true, and_self, true_and, and_true, reduceCtorEq, cond_true, cond_false, tl, h01, decide_true, tc, u1, u2, v1, v2, lf1, lf2, List.replicate_zero, evG_iadr, p1, hsl, k5]
        · refine .inr ⟨f2, g, bx, fun kk => ?_⟩
          rw [← f3 kk, loopK_step l_spec_Comes_2.eq_1]
          simp (config := {contextual := true, implicitDefEqProofs := false, maxSteps := 1000000}) only [
    ↓PR0, ↓PR1, ↓PR2, PO0, PO1, PO2, PO3, idxV_str, result, resOf, allSome, number, upd, List.map, Option.bind_some, Nat.reduceAdd, Nat.reduceSub, Nat.reduceLeDiff, Nat.reduceLT, Nat.reduceEqDiff, Nat.zero_add, Nat.add_zero, Nat.le_refl, 
    reduceIte, ne_eq, not_false_eq_true, and_self, true_and, and_true, reduceCtorEq, cond_true, cond_false, tl, h01, decide_true, tc, u1, u2, v1, v2, lf1, lf2, List.replicate_zero, evG_iadr, p1, hsl, k5]
theorem specComes_eq (σ : Store) (m : TreeM) (cs : List AV) (fr to : List UInt8) (h : RTree σ m cs) (hs : m.size ≤ 1048576) : ∃ σ', EE X f_spec_Comes [.agg cs, .str fr, .str to] σ = some (.tup [.bool (comesV m fr to).1, int (comesV m fr to).2], σ') ∧ Pre σ σ' := by
  have h0 := h
  obtain ⟨σ2, g1, g2⟩ := specTreeOK_eq (X := X) σ m _ h hs
  obtain ⟨a, rfl, ha, hr, hln⟩ := h0
  have hc := ha.cellsOf
  by_cases h1 : 65536 < fr.length
  · have h1' : (65536 : Int) < (fr.length : Int) := by omega
    refine ⟨σ, ?_, Fr.refl _ _⟩
    rw [EE, Ex_run C_spec_Comes rfl]
    simp (config := {contextual := true, implicitDefEqProofs := false, maxSteps := 1000000}) only [
    ↓PR0, ↓PR1, ↓PR2, PO0, PO1, PO2, PO3, idxV_str, result, resOf, allSome, number, upd, List.map, Option.bind_some, Nat.reduceAdd, Nat.reduceSub, Nat.reduceLeDiff, Nat.reduceLT, Nat.reduceEqDiff, Nat.zero_add, Nat.add_zero, Nat.le_refl, 
    reduceIte, ne_eq, not_false_eq_true, and_self, true_and, and_true, reduceCtorEq, cond_true, cond_false, c_spec_Comes, hc, h1', decide_true]
    simp [comesV, h1]
  · have h1' : ¬ (65536 : Int) < (fr.length : Int) := by omega
    by_cases h2 : 65536 < to.length
    · have h2' : (65536 : Int) < (to.length : Int) := by omega
      refine ⟨σ, ?_, Fr.refl _ _⟩
      rw [EE, Ex_run C_spec_Comes rfl]
      simp (config := {contextual := true, implicitDefEqProofs := false, maxSteps := 1000000}) only [
    ↓PR0, ↓PR1, ↓PR2, PO0, PO1, PO2, PO3, idxV_str, result, resOf, allSome, number, upd, List.map, Option.bind_some, Nat.reduceAdd, Nat.reduceSub, Nat.reduceLeDiff, Nat.reduceLT, Nat.reduceEqDiff, Nat.zero_add, Nat.add_zero, Nat.le_refl, 
    reduceIte, ne_eq, not_false_eq_true, and_self, true_and, and_true, reduceCtorEq, cond_true, cond_false, c_spec_Comes, hc, h1', h2', decide_true, decide_false]
      simp [comesV, h2]
    · have h2' : ¬ (65536 : Int) < (to.length : Int) := by omega
      have e0 : comesV m fr to = if treeOK m = false then (false, 1) else if (namesM m).any (fun x => fr == x) = false ∨ (namesM m).any (fun x => to == x) = false then (false, 11) else ((comesF m fr).any (fun x => to == x), 0) := by
        unfold comesV; rw [if_neg (by omega)]
      rw [e0]
      cases ht : treeOK m with
      | false =>
        rw [ht] at g1
        refine ⟨σ2, ?_, g2⟩
        rw [EE, Ex_run C_spec_Comes rfl]
        simp (config := {contextual := true, implicitDefEqProofs := false, maxSteps := 1000000}) only [
    ↓PR0, ↓PR1, ↓PR2, PO0, PO1, PO2, PO3, idxV_str, result, resOf, allSome, number, upd, List.map, Option.bind_some, Nat.reduceAdd, Nat.reduceSub, Nat.reduceLeDiff, Nat.reduceLT, Nat.reduceEqDiff, Nat.zero_add, Nat.add_zero, Nat.le_refl, 
    reduceIte, ne_eq, not_false_eq_true, and_self, true_and, and_true, reduceCtorEq, cond_true, cond_false, c_spec_Comes, hc, h1', h2', decide_false, g1, Bool.not_false]
      | true =>
        rw [ht] at g1
        have hR := treeOK_right ht
        rw [if_neg (by decide)]
        have lf1 := l04Func_eq (X := X) h hR hs g2 fr
        have lf2 := l04Func_eq (X := X) h hR hs g2 to
        have ls1 := funcOf_spec hR fr
        have ls2 := funcOf_spec hR to
        cases hf : (namesM m).any (fun x => fr == x) with
        | false =>
          rw [hf] at ls1
          rw [if_pos (.inl rfl)]
          refine ⟨σ2, ?_, g2⟩
          rw [EE, Ex_run C_spec_Comes rfl]
          simp (config := {contextual := true, implicitDefEqProofs := false, maxSteps := 1000000}) only [
    ↓PR0, ↓PR1, ↓PR2, PO0, PO1, PO2, PO3, idxV_str, result, resOf, allSome, number, upd, List.map, Option.bind_some, Nat.reduceAdd, Nat.reduceSub, Nat.reduceLeDiff, Nat.reduceLT, Nat.reduceEqDiff, Nat.zero_add, Nat.add_zero, Nat.le_refl, 
    reduceIte, ne_eq, not_false_eq_true, and_self, true_and, and_true, reduceCtorEq, cond_true, cond_false, c_spec_Comes, hc, h1', h2', decide_false, g1, Bool.not_true, lf1, ls1, Bool.not_false]
        | true =>
          rw [hf] at ls1
          cases hto : (namesM m).any (fun x => to == x) with
          | false =>
            rw [hto] at ls2
            rw [if_pos (.inr rfl)]
            refine ⟨σ2, ?_, g2⟩
            rw [EE, Ex_run C_spec_Comes rfl]
            simp (config := {contextual := true, implicitDefEqProofs := false, maxSteps := 1000000}) only [
    ↓PR0, ↓PR1, ↓PR2, PO0, PO1, PO2, PO3, idxV_str, result, resOf, allSome, number, upd, List.map, Option.bind_some, Nat.reduceAdd, Nat.reduceSub, Nat.reduceLeDiff, Nat.reduceLT, Nat.reduceEqDiff, Nat.zero_add, Nat.add_zero, Nat.le_refl, 
    reduceIte, ne_eq, not_false_eq_true, and_self, true_and, and_true, reduceCtorEq, cond_true, cond_false, c_spec_Comes, hc, h1', h2', decide_false, g1, Bool.not_true, lf1, ls1, lf2, ls2, Bool.not_false]
          | true =>
            rw [hto] at ls2
            rw [if_neg (by simp)]
            have q1 := Pre.app σ2 [(⟨[], 1, 0, .own⟩ : Row)]
            have w1 := OwR.new σ2 [] 1
            have q3 := Pre.app (σ2 ++ [(⟨[], 1, 0, .own⟩ : Row)]) [(⟨[[.str fr]], 1, 0, .own⟩ : Row)]
            have w3 := OwR.new (σ2 ++ [(⟨[], 1, 0, .own⟩ : Row)]) [[.str fr]] 1
            have hnl := (funcsM_len hR hs).2
            have hc0 := cnt0 (namesM m)
            obtain ⟨σ', f1, f2⟩ := specComes_loop (X := X) (R := AV × Store) (q1 := σ2.length) (q2 := (σ2 ++ [(⟨[], 1, 0, .own⟩ : Row)]).length) h hR hs (by simp) g2.1 (by have := g2.1; simp; omega) to (cntN (namesM m) [] + 2) [] [fr] _ _ _ (by simp only [List.length_cons, List.length_nil]; omega) (by omega) (okN_nil _) (fun x hx => by rw [List.mem_singleton] at hx; subst hx; exact hf) (g2.pre (q1.pre q3)) (fun x hx => by cases hx) (show OwR _ _ 1 (cT []) _ from w1.pre q3) (show OwR _ _ 1 (cT [fr]) _ from w3)
            simp only [List.length_cons, List.length_nil, Nat.zero_add] at f2
            have e : (comesF m fr).any (fun x => to == x) = scomes m to (cntN (namesM m) [] + 2) [] [fr] := (scomes_eq m to _ _ _ rfl).symm
            rw [e]
            refine ⟨σ', ?_, (g2.pre (q1.pre q3)).trans f1 (fun x h1 h2 => by have := g2.1; rcases h2 with h2 | h2; omega; simp at h2; omega)⟩
            rw [EE, Ex_run C_spec_Comes rfl]
            rcases f2 with ⟨f2, f3⟩ | ⟨f2, g, bx, f3⟩
            · rw [f2]
              simp (config := {contextual := true, implicitDefEqProofs := false, maxSteps := 1000000}) only [
    ↓PR0, ↓PR1, ↓PR2, PO0, PO1, PO2, PO3, idxV_str, result, resOf, allSome, number, upd, List.map, Option.bind_some, Nat.reduceAdd, Nat.reduceSub, Nat.reduceLeDiff, Nat.reduceLT, Nat.reduceEqDiff, Nat.zero_add, Nat.add_zero, Nat.le_refl, 
    reduceIte, ne_eq, not_false_eq_true, and_self, true_and, and_true, reduceCtorEq, cond_true, cond_false, c_spec_Comes, hc, h1', h2', decide_false, g1, Bool.not_true, lf1, ls1, lf2, ls2, List.replicate_succ, List.replicate_zero, 
    List.set_cons_zero, f3]
            · rw [f2]
              simp (config := {contextual := true, implicitDefEqProofs := false, maxSteps := 1000000}) only [
    ↓PR0, ↓PR1, ↓PR2, PO0, PO1, PO2, PO3, idxV_str, result, resOf, allSome, number, upd, List.map, Option.bind_some, Nat.reduceAdd, Nat.reduceSub, Nat.reduceLeDiff, Nat.reduceLT, Nat.reduceEqDiff, Nat.zero_add, Nat.add_zero, Nat.le_refl, 
    reduceIte, ne_eq, not_false_eq_true, and_self, true_and, and_true, reduceCtorEq, cond_true, cond_false, c_spec_Comes, hc, h1', h2', decide_false, g1, Bool.not_true, lf1, ls1, lf2, ls2, List.replicate_succ, List.replicate_zero, 
    List.set_cons_zero, f3]

/-! ### The law -/

set_option maxHeartbeats 4000000 in
theorem law_Comes (hX : RepX X) (σ : Store) (m : TreeM) (cs : List AV) (fr to : List UInt8) (h : RTree σ m cs) : ∃ σ', EE X f_laws_FnExactComes [.agg cs, .str fr, .str to] σ = some (.bool true, σ') := by
  obtain ⟨w, z1, z2, z3⟩ := szTree_eq (X := X) σ m cs 1048576 h (by decide) (by decide)
  obtain ⟨a, hcs, ha0⟩ := h
  have h : RTree σ m cs := ⟨a, hcs, ha0⟩
  have c0 := ha0.1.cellsOf
  subst hcs
  by_cases hb1 : (1048576 : Int) < (fr.length : Int)
  · refine ⟨σ, ?_⟩
    rw [EE, Ex_run C_laws_FnExactComes rfl]
    simp (config := {contextual := true, implicitDefEqProofs := false, maxSteps := 1000000}) only [
    ↓PR0, ↓PR1, ↓PR2, PO0, PO1, PO2, PO3, idxV_str, result, resOf, allSome, number, upd, List.map, Option.bind_some, Nat.reduceAdd, Nat.reduceSub, Nat.reduceLeDiff, Nat.reduceLT, Nat.reduceEqDiff, Nat.zero_add, Nat.add_zero, Nat.le_refl, 
    reduceIte, ne_eq, not_false_eq_true, and_self, true_and, and_true, reduceCtorEq, cond_true, cond_false, c_laws_FnExactComes, c0, hb1, decide_true]
  · by_cases hb2 : (1048576 : Int) < (to.length : Int)
    · refine ⟨σ, ?_⟩
      rw [EE, Ex_run C_laws_FnExactComes rfl]
      simp (config := {contextual := true, implicitDefEqProofs := false, maxSteps := 1000000}) only [
    ↓PR0, ↓PR1, ↓PR2, PO0, PO1, PO2, PO3, idxV_str, result, resOf, allSome, number, upd, List.map, Option.bind_some, Nat.reduceAdd, Nat.reduceSub, Nat.reduceLeDiff, Nat.reduceLT, Nat.reduceEqDiff, Nat.zero_add, Nat.add_zero, Nat.le_refl, 
    reduceIte, ne_eq, not_false_eq_true, and_self, true_and, and_true, reduceCtorEq, cond_true, cond_false, c_laws_FnExactComes, c0, hb1, hb2, decide_true, decide_false]
    · by_cases hw : w < 0
      · refine ⟨σ, ?_⟩
        rw [EE, Ex_run C_laws_FnExactComes rfl]
        simp (config := {contextual := true, implicitDefEqProofs := false, maxSteps := 1000000}) only [
    ↓PR0, ↓PR1, ↓PR2, PO0, PO1, PO2, PO3, idxV_str, result, resOf, allSome, number, upd, List.map, Option.bind_some, Nat.reduceAdd, Nat.reduceSub, Nat.reduceLeDiff, Nat.reduceLT, Nat.reduceEqDiff, Nat.zero_add, Nat.add_zero, Nat.le_refl, 
    reduceIte, ne_eq, not_false_eq_true, and_self, true_and, and_true, reduceCtorEq, cond_true, cond_false, c_laws_FnExactComes, c0, hb1, hb2, decide_false, z1, hw, decide_true]
      · have hs : m.size ≤ 1048576 := by rcases z3 with h | h <;> omega
        obtain ⟨c1, σ1, t1, tl1, tp1, to1⟩ := toTree_pre (X := X) σ m _ h hs
        obtain ⟨σ2, s1, s2⟩ := specComes_eq (X := X) σ1 m c1 fr to to1.r hs
        have h2 := RTree.mono.pre (RTree.mono.pre h tp1) s2
        obtain ⟨c2, σ3, t2, tl2, tp2, to2⟩ := toTree_pre (X := X) σ2 m _ h2 hs
        obtain ⟨σ4, i1, i2⟩ := implComes_eq (X := X) hX σ3 m c2 fr to to2.r hs
        have h4 := RTree.mono.pre h2 (tp2.pre i2)
        obtain ⟨c3, σ5, t3, tl3, tp3, to3⟩ := toTree_pre (X := X) σ4 m _ h4 hs
        have to5 := (to2.pre i2).pre tp3
        have q2 := eqTree_eq (X := X) σ5 m m c2 c3 to5.r to3.r
        rw [TreeM.refl] at q2
        refine ⟨σ5, ?_⟩
        rw [EE, Ex_run C_laws_FnExactComes rfl]
        cases hv : (comesV m fr to).1 with
        | true =>
          rw [hv] at s1 i1
          simp (config := {contextual := true, implicitDefEqProofs := false, maxSteps := 1000000}) only [
    ↓PR0, ↓PR1, ↓PR2, PO0, PO1, PO2, PO3, idxV_str, result, resOf, allSome, number, upd, List.map, Option.bind_some, Nat.reduceAdd, Nat.reduceSub, Nat.reduceLeDiff, Nat.reduceLT, Nat.reduceEqDiff, Nat.zero_add, Nat.add_zero, Nat.le_refl, 
    reduceIte, ne_eq, not_false_eq_true, and_self, true_and, and_true, reduceCtorEq, cond_true, cond_false, c_laws_FnExactComes, c0, hb1, hb2, z1, hw, decide_false, t1, s1, t2, tl2, i1, beq_self_eq_true, Bool.not_true, bne_self_eq_false, 
    ld_all tl2, t3, q2]
        | false =>
          rw [hv] at s1 i1
          simp (config := {contextual := true, implicitDefEqProofs := false, maxSteps := 1000000}) only [
    ↓PR0, ↓PR1, ↓PR2, PO0, PO1, PO2, PO3, idxV_str, result, resOf, allSome, number, upd, List.map, Option.bind_some, Nat.reduceAdd, Nat.reduceSub, Nat.reduceLeDiff, Nat.reduceLT, Nat.reduceEqDiff, Nat.zero_add, Nat.add_zero, Nat.le_refl, 
    reduceIte, ne_eq, not_false_eq_true, and_self, true_and, and_true, reduceCtorEq, cond_true, cond_false, c_laws_FnExactComes, c0, hb1, hb2, z1, hw, decide_false, t1, s1, t2, tl2, i1, beq_self_eq_true, Bool.not_true, bne_self_eq_false, 
    ld_all tl2, t3, q2]
theorem lawR_Comes (hX : RepX X) {σ : Store} {m : TreeM} {cs : List AV} {s t : List UInt8} {a b : AV} (h : RTree σ m cs) (h1 : RStr σ s [a]) (h2 : RStr σ t [b]) : ∃ σ', EE X f_laws_FnExactComes [.agg cs, a, b] σ = some (.bool true, σ') := by
  obtain ⟨e1, _⟩ := h1
  obtain ⟨e2, _⟩ := h2
  cases e1; cases e2
  exact law_Comes hX σ m cs s t h
end Go.X
