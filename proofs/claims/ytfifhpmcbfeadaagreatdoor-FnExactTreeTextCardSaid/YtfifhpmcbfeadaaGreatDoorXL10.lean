/- Right trees: TreeOK of the reference. -/
import Derived.Test.YtfifhpmcbfeadaaGreatDoorXL9
set_option linter.unusedVariables false
set_option linter.unusedSimpArgs false
set_option maxRecDepth 20000
namespace Go.X
open Go
variable {X : Call}

/-- The looker in row r: the tree lies in τ, what was seen in row sr; whether all was right so far. -/
structure Lok (τ : Store) (m : TreeM) (a : AV) (r sr : Nat) (vis : List Nat) (ok : Bool) (σ : Store) : Prop where
  obj : ∃ dp, ObjAt σ r [a, int m.root, .sl sr 0 0 m.nodes.length, .bool ok, int dp]
  seen : SeenAt σ sr m.nodes.length vis
  pre : Pre τ σ
  hr : τ.length ≤ r
  hs : τ.length ≤ sr
  ne : r ≠ sr
theorem Lok.next {τ : Store} {m : TreeM} {a : AV} {r sr : Nat} {vis : List Nat} {ok : Bool} {σ σ' : Store} (h : Lok τ m a r sr vis ok σ) (k : Pre σ σ') : Lok τ m a r sr vis ok σ' := by
  obtain ⟨⟨dp, h1⟩, h2, h3, h4, h5, h6⟩ := h
  exact ⟨⟨dp, h1.pre k⟩, h2.fr k (fun h => h), h3.pre k, h4, h5, h6⟩
theorem Lok.lt {τ : Store} {m : TreeM} {a : AV} {r sr : Nat} {vis : List Nat} {ok : Bool} {σ : Store} (h : Lok τ m a r sr vis ok σ) : r < σ.length ∧ sr < σ.length := by
  obtain ⟨⟨dp, h1⟩, h2, _⟩ := h
  exact ⟨h1.lt, h2.lt⟩
/-- Writes into the looker's two rows. -/
abbrev Two (r sr : Nat) : Nat → Prop := fun x => x = r ∨ x = sr
theorem Lok.pre2 {τ : Store} {m : TreeM} {a : AV} {r sr : Nat} {vis : List Nat} {ok : Bool} {σ σ' : Store} (h : Lok τ m a r sr vis ok σ) (k : Fr (Two r sr) σ σ') : Pre τ σ' :=
  h.pre.trans k (fun x h1 h2 => by rcases h2 with rfl | rfl; have := h.hr; omega; have := h.hs; omega)
/-- All is lost. -/
theorem Lok.fail {τ : Store} {m : TreeM} {a : AV} {r sr : Nat} {vis : List Nat} {ok : Bool} {σ : Store} (h : Lok τ m a r sr vis ok σ) :
    ∃ σ', (∀ bx, putAt ⟨bx, σ⟩ (.v (.ptr r 0 0 3)) [.bool false] = some ⟨bx, σ'⟩) ∧ Lok τ m a r sr vis false σ' ∧ Fr (Two r sr) σ σ' := by
  have h0 := h
  obtain ⟨⟨dp, h1⟩, h2, h3, h4, h5, h6⟩ := h
  obtain ⟨σ', p1, p2, p3, p4⟩ := h1.write 3 [.bool false] (by simp)
  have p5 : Fr (Two r sr) σ σ' := p3.weak (fun x _ e => .inl e)
  exact ⟨σ', p1, ⟨⟨dp, p2⟩, h2.fr p3 (fun e => h6 e.symm), h0.pre2 p5, h4, h5, h6⟩, p5⟩
/-- What the reference's walk does with so much depth left. -/
def WalkS (X : Call) (τ : Store) (m : TreeM) (a : AV) (r sr f : Nat) : Prop := ∀ s k vis σ, 1 ≤ s → s ≤ 4 → Lok τ m a r sr vis true σ →
  ∃ σ' vis', EE X f_spec_l03Look_walk [.ptr r 0 0 0, int k, int s, int (201 - (f : Int))] σ = some (.tup [], σ') ∧ Fr (Two r sr) σ σ' ∧ Lok τ m a r sr vis' (walkM m f s k vis).isSome σ' ∧ ∀ v, walkM m f s k vis = some v → v = vis'
theorem walkS_bad (τ : Store) (m : TreeM) (a : AV) (r sr : Nat) (vis : List Nat) (σ : Store) (k s d : Int) (h : Lok τ m a r sr vis false σ) :
    ∃ σ', EE X f_spec_l03Look_walk [.ptr r 0 0 0, int k, int s, int d] σ = some (.tup [], σ') ∧ Fr (Two r sr) σ σ' ∧ Lok τ m a r sr vis false σ' := by
  obtain ⟨σ', p1, p2, p3⟩ := h.fail
  obtain ⟨⟨dp, h1⟩, h2⟩ := h
  have pl := fun bx o => h1.place bx o
  refine ⟨σ', ?_, p3, p2⟩
  rw [EE, Ex_run C_spec_l03Look_walk rfl]
  simp (config := {contextual := true, implicitDefEqProofs := false, maxSteps := 1000000}) only [
    ↓PR0, ↓PR1, ↓PR2, PO0, PO1, PO2, PO3, idxV_str, result, resOf, allSome, number, upd, List.map, Option.bind_some, Nat.reduceAdd, Nat.reduceSub, Nat.reduceLeDiff, Nat.reduceLT, Nat.reduceEqDiff, Nat.zero_add, Nat.add_zero, Nat.le_refl, 
    reduceIte, ne_eq, not_false_eq_true, and_self, true_and, and_true, reduceCtorEq, cond_true, cond_false, c_spec_l03Look_walk, pl, p1, Bool.not_false]
theorem sortsM_le (nd : NodeM) : ∀ s ∈ sortsM nd, 1 ≤ s ∧ s ≤ 3 := by
  intro s hs
  simp only [sortsM] at hs
  repeat' split at hs
  all_goals (first | (have := List.eq_of_mem_replicate hs; omega) | (cases hs; done) | (simp at hs; omega))
theorem adjM_le {root k s : Int} (h : 1 ≤ s ∧ s ≤ 3) : 1 ≤ adjM root k s ∧ adjM root k s ≤ 4 := by
  unfold adjM; split <;> omega
theorem walkS_loop {R : Type} {τ : Store} {m : TreeM} {a : AV} {r sr f : Nat} (hT : RTree τ m [a, int m.root]) (hs : m.size ≤ 1048576) (hf : f < 200) (ih : WalkS X τ m a r sr f) {kn : Nat} {nd : NodeM} (hkn : m.nodes[kn]? = some nd) {an ak as : AV} (hak : RS RI 1 τ nd.kids ak)
    (hlen : (sortsM nd).length = nd.kids.length) : ∀ d i vis ok σ, i + d = nd.kids.length → Lok τ m a r sr vis ok σ → Dep (fun x => ¬ Two r sr x) σ (fun st => RS RI 1 st (sortsM nd) as) → ∃ σ' vis', Fr (Two r sr) σ σ' ∧
      Lok τ m a r sr vis' (ok && (walkL (walkM m f) m.root kn ((sortsM nd).drop i) (nd.kids.drop i) vis).isSome) σ' ∧ (ok = true → ∀ v, walkL (walkM m f) m.root kn ((sortsM nd).drop i) (nd.kids.drop i) vis = some v → v = vis') ∧ ∀ kk : Out → S → Option R,
        loopK (EE X) [0, 1, 3, 8, 10, 11] l_spec_l03Look_walk_0 ([(0, .v (.ptr r 0 0 0)), (1, .v (int kn)), (3, .v (int (200 - (f : Int)))), (8, .lp 8 0), (10, .v as), (11, .v (int i))], ⟨[(8, nc nd an ak)], σ⟩) kk =
          kk (.exit 0) ([(0, .v (.ptr r 0 0 0)), (1, .v (int kn)), (3, .v (int (200 - (f : Int)))), (8, .lp 8 0), (10, .v as), (11, .v (int nd.kids.length)), (131, .v (.bool false))], ⟨[(8, nc nd an ak)], σ'⟩) := by
  have hnl : nd.kids.length ≤ 1048576 := by have := NodeM.size_le hkn hs; simp only [NodeM.size] at this; omega
  intro d
  induction d with
  | zero =>
    intro i vis ok σ hi hc hd
    have e : i = nd.kids.length := by omega
    subst e
    have hsl := hd.self.len
    rw [hlen] at hsl
    have e2 : walkL (walkM m f) m.root kn ((sortsM nd).drop nd.kids.length) (nd.kids.drop nd.kids.length) vis = some vis := by rw [List.drop_length]; simp [walkL]
    refine ⟨σ, vis, Fr.refl _ _, by rw [e2]; simpa using hc, fun _ v h => by rw [e2] at h; cases h; rfl, fun kk => ?_⟩
    rw [loopK_step l_spec_l03Look_walk_0.eq_1]
    simp (config := {contextual := true, implicitDefEqProofs := false, maxSteps := 1000000}) only [
    ↓PR0, ↓PR1, ↓PR2, PO0, PO1, PO2, PO3, idxV_str, result, resOf, allSome, number, upd, List.map, Option.bind_some, Nat.reduceAdd, Nat.reduceSub, Nat.reduceLeDiff, Nat.reduceLT, Nat.reduceEqDiff, Nat.zero_add, Nat.add_zero, Nat.le_refl, 
    reduceIte, ne_eq, not_false_eq_true, and_self, true_and, and_true, reduceCtorEq, cond_true, cond_false, hsl, Int.lt_irrefl, decide_false]
  | succ d ihd =>
    intro i vis ok σ hi hc hd
    have hlt : i < nd.kids.length := by omega
    have hlt' : (i : Int) < (nd.kids.length : Int) := by omega
    have hw : IntKind.i64.wrap ((i : Int) + 1) = ((i + 1 : Nat) : Int) := wrap64 (by omega) (by omega)
    have hwd : IntKind.i64.wrap (200 - (f : Int) + 1) = 201 - (f : Int) := by rw [wrap64 (by omega) (by omega)]; omega
    obtain ⟨c1, ⟨hp, _⟩, ha1, ha2, _⟩ := (hak.pre (RP.mono _ _) hc.pre).get (List.getElem?_eq_getElem hlt)
    subst hp
    have hsl : i < (sortsM nd).length := by omega
    have hsL := hd.self.len
    rw [hlen] at hsL
    obtain ⟨c2, ⟨hp, _⟩, sa1, sa2, _⟩ := hd.self.get (List.getElem?_eq_getElem hsl)
    subst hp
    have hrng := sortsM_le nd _ (List.getElem_mem hsl)
    have hrng2 := adjM_le (root := m.root) (k := kn) hrng
    obtain ⟨dp, hob⟩ := hc.obj
    have pl := fun bx o => hob.place bx o
    -- the call
    have call : ∃ σ1 v1, EE X f_spec_l03Look_walk [.ptr r 0 0 0, int nd.kids[i], int (adjM m.root kn (sortsM nd)[i]), int (201 - (f : Int))] σ = some (.tup [], σ1) ∧ Fr (Two r sr) σ σ1 ∧
        Lok τ m a r sr v1 (ok && (walkM m f (adjM m.root kn (sortsM nd)[i]) nd.kids[i] vis).isSome) σ1 ∧ (ok = true → ∀ v, walkM m f (adjM m.root kn (sortsM nd)[i]) nd.kids[i] vis = some v → v = v1) := by
      cases ok with
      | false =>
        obtain ⟨σ1, q1, q2, q3⟩ := walkS_bad (X := X) τ m a r sr vis σ nd.kids[i] (adjM m.root kn (sortsM nd)[i]) (201 - (f : Int)) hc
        exact ⟨σ1, vis, q1, q2, q3, fun h => by cases h⟩
      | true =>
        obtain ⟨σ1, v1, q1, q2, q3, q4⟩ := ih _ nd.kids[i] vis σ hrng2.1 hrng2.2 hc
        exact ⟨σ1, v1, q1, q2, q3, fun _ => q4⟩
    obtain ⟨σ1, v1, q1, q2, q3, q4⟩ := call
    have hd1 : Dep (fun x => ¬ Two r sr x) σ1 (fun st => RS RI 1 st (sortsM nd) as) := hd.fr q2 (fun x _ h h' => h h')
    obtain ⟨σ', vis', f1, f2, f3, f4⟩ := ihd (i + 1) v1 _ σ1 (by omega) q3 hd1
    have hwl : walkL (walkM m f) m.root kn ((sortsM nd).drop i) (nd.kids.drop i) vis = (walkM m f (adjM m.root kn (sortsM nd)[i]) nd.kids[i] vis).bind (walkL (walkM m f) m.root kn ((sortsM nd).drop (i + 1)) (nd.kids.drop (i + 1))) := by
      rw [List.drop_eq_getElem_cons hlt, List.drop_eq_getElem_cons hsl]; rfl
    refine ⟨σ', vis', q2.step f1, ?_, ?_, fun kk => ?_⟩
    · rw [hwl]
      cases hwk : walkM m f (adjM m.root kn (sortsM nd)[i]) nd.kids[i] vis with
      | none => rw [hwk] at f2; simpa using f2
      | some v =>
        cases ok with
        | false => rw [hwk] at f2; simpa using f2
        | true =>
          have := q4 rfl v hwk
          subst this
          rw [hwk] at f2
          simpa using f2
    · intro hok v hv
      rw [hwl] at hv
      cases hwk : walkM m f (adjM m.root kn (sortsM nd)[i]) nd.kids[i] vis with
      | none => rw [hwk] at hv; cases hv
      | some v2 =>
        have := q4 hok v2 hwk
        subst this
        rw [hwk] at hv f3
        subst hok
        exact f3 rfl v hv
    · rw [← f4 kk, loopK_step l_spec_l03Look_walk_0.eq_1]
      by_cases hroot : (kn : Int) = m.root
      · have hr1 : ((kn : Int) == m.root) = true := by simp [hroot]
        by_cases h3 : (sortsM nd)[i] = 3
        · have e : adjM m.root kn (sortsM nd)[i] = 4 := by unfold adjM; rw [if_pos ⟨hroot, h3⟩]
          have h3' : ((sortsM nd)[i] == 3) = true := by simp [h3]
          rw [e] at q1
          simp (config := {contextual := true, implicitDefEqProofs := false, maxSteps := 1000000}) only [
    ↓PR0, ↓PR1, ↓PR2, PO0, PO1, PO2, PO3, idxV_str, result, resOf, allSome, number, upd, List.map, Option.bind_some, Nat.reduceAdd, Nat.reduceSub, Nat.reduceLeDiff, Nat.reduceLT, Nat.reduceEqDiff, Nat.zero_add, Nat.add_zero, Nat.le_refl, 
    reduceIte, ne_eq, not_false_eq_true, and_self, true_and, and_true, reduceCtorEq, cond_true, cond_false, hsL, hlt', decide_true, sa1, sa2, pl, hr1, h3', ha1, ha2, hwd, q1, hw]
        · have e : adjM m.root kn (sortsM nd)[i] = (sortsM nd)[i] := by unfold adjM; rw [if_neg (fun h => h3 h.2)]
          have h3' : ((sortsM nd)[i] == 3) = false := by simp [h3]
          rw [e] at q1
          simp (config := {contextual := true, implicitDefEqProofs := false, maxSteps := 1000000}) only [
    ↓PR0, ↓PR1, ↓PR2, PO0, PO1, PO2, PO3, idxV_str, result, resOf, allSome, number, upd, List.map, Option.bind_some, Nat.reduceAdd, Nat.reduceSub, Nat.reduceLeDiff, Nat.reduceLT, Nat.reduceEqDiff, Nat.zero_add, Nat.add_zero, Nat.le_refl, 
    reduceIte, ne_eq, not_false_eq_true, and_self, true_and, and_true, reduceCtorEq, cond_true, cond_false, hsL, hlt', decide_true, sa1, sa2, pl, hr1, h3', ha1, ha2, hwd, q1, hw]
      · have hr1 : ((kn : Int) == m.root) = false := by simp [hroot]
        have e : adjM m.root kn (sortsM nd)[i] = (sortsM nd)[i] := by unfold adjM; rw [if_neg (fun h => hroot h.1)]
        rw [e] at q1
        simp (config := {contextual := true, implicitDefEqProofs := false, maxSteps := 1000000}) only [
    ↓PR0, ↓PR1, ↓PR2, PO0, PO1, PO2, PO3, idxV_str, result, resOf, allSome, number, upd, List.map, Option.bind_some, Nat.reduceAdd, Nat.reduceSub, Nat.reduceLeDiff, Nat.reduceLT, Nat.reduceEqDiff, Nat.zero_add, Nat.add_zero, Nat.le_refl, 
    reduceIte, ne_eq, not_false_eq_true, and_self, true_and, and_true, reduceCtorEq, cond_true, cond_false, hsL, hlt', decide_true, sa1, sa2, pl, hr1, ha1, ha2, hwd, q1, hw]
theorem right_true {s : Int} {k : Int} (h : rightM s k = true) : (s = 1 ∧ exprK k = true ∧ True) ∨ (s = 2 ∧ (k == 18) = true ∧ True) ∨ (s = 3 ∧ stateK k = true ∧ True) ∨ (s = 4 ∧ stateK k = true ∧ True) ∨ (s = 4 ∧ stateK k = false ∧ (k == 20) = true) := by
  simp only [rightM, Bool.or_eq_true, Bool.and_eq_true, beq_iff_eq] at h
  simp only [beq_iff_eq]
  rcases h with ⟨h1, h2⟩ | ⟨h1, h2⟩ | ⟨h1, h2⟩ | ⟨h1, h2⟩
  · exact .inl ⟨h1, h2, trivial⟩
  · exact .inr (.inl ⟨h1, h2, trivial⟩)
  · exact .inr (.inr (.inl ⟨h1, h2, trivial⟩))
  · cases hst : stateK k with
    | true => exact .inr (.inr (.inr (.inl ⟨h1, rfl, trivial⟩)))
    | false => rw [hst] at h2; exact .inr (.inr (.inr (.inr ⟨h1, rfl, by simpa using h2⟩)))
theorem right_false {s : Int} {k : Int} (h1 : 1 ≤ s) (h2 : s ≤ 4) (h : rightM s k = false) : (s = 1 ∧ exprK k = false ∧ True) ∨ (s = 2 ∧ (k == 18) = false ∧ True) ∨ (s = 3 ∧ stateK k = false ∧ True) ∨ (s = 4 ∧ stateK k = false ∧ (k == 20) = false) := by
  have hs : s = 1 ∨ s = 2 ∨ s = 3 ∨ s = 4 := by omega
  rcases hs with rfl | rfl | rfl | rfl <;> simp_all [rightM]
theorem l03Expr_eq (k : Int) (σ : Store) : EE X f_spec_l03Expr [int k] σ = some (.bool (exprK k), σ) := by
  rw [EE, Ex_run C_spec_l03Expr rfl]
  simp (config := {contextual := true, implicitDefEqProofs := false, maxSteps := 1000000}) only [
    ↓PR0, ↓PR1, ↓PR2, PO0, PO1, PO2, PO3, idxV_str, result, resOf, allSome, number, upd, List.map, Option.bind_some, Nat.reduceAdd, Nat.reduceSub, Nat.reduceLeDiff, Nat.reduceLT, Nat.reduceEqDiff, Nat.zero_add, Nat.add_zero, Nat.le_refl, 
    reduceIte, ne_eq, not_false_eq_true, and_self, true_and, and_true, reduceCtorEq, cond_true, cond_false, c_spec_l03Expr, l01In_eq'' (X := X)]
  rfl
theorem l03State_eq (k : Int) (σ : Store) : EE X f_spec_l03State [int k] σ = some (.bool (stateK k), σ) := by
  rw [EE, Ex_run C_spec_l03State rfl]
  simp (config := {contextual := true, implicitDefEqProofs := false, maxSteps := 1000000}) only [
    ↓PR0, ↓PR1, ↓PR2, PO0, PO1, PO2, PO3, idxV_str, result, resOf, allSome, number, upd, List.map, Option.bind_some, Nat.reduceAdd, Nat.reduceSub, Nat.reduceLeDiff, Nat.reduceLT, Nat.reduceEqDiff, Nat.zero_add, Nat.add_zero, Nat.le_refl, 
    reduceIte, ne_eq, not_false_eq_true, and_self, true_and, and_true, reduceCtorEq, cond_true, cond_false, c_spec_l03State, l01In_eq'' (X := X)]
  rfl
set_option maxHeartbeats 4000000 in
theorem walkS_all {τ : Store} {m : TreeM} {a : AV} {r sr : Nat} (hT : RTree τ m [a, int m.root]) (hs : m.size ≤ 1048576) : ∀ f, f ≤ 200 → WalkS X τ m a r sr f := by
  have hml : m.nodes.length ≤ 1048576 := by simp only [TreeM.size] at hs; omega
  have hwl : IntKind.i64.wrap ((m.nodes.length : Int) - 1) = (m.nodes.length : Int) - 1 := wrap64 (by omega) (by omega)
  obtain ⟨tl, tc⟩ := hT.len
  intro f hf
  induction f with
  | zero =>
    intro s k vis σ hs1 hs4 hc
    obtain ⟨σ1, p1, p2, p3⟩ := hc.fail
    obtain ⟨⟨dp, hob⟩, hsn, hpre, h4, h5, h6⟩ := hc
    have pl := fun bx o => hob.place bx o
    have w1 := fun a b c => l01In_eq'' (X := X) a b c σ
    refine ⟨σ1, vis, ?_, p3, p2, fun v h => by simp [walkM] at h⟩
    have h201 : (200 : Int) < 201 - ((0 : Nat) : Int) := by decide
    by_cases hin : 0 ≤ k ∧ k < m.nodes.length
    · have hd1 : (decide (0 ≤ k) && decide (k ≤ (m.nodes.length : Int) - 1)) = true := by
        rw [Bool.and_eq_true, decide_eq_true_eq, decide_eq_true_eq]; omega
      obtain ⟨c, rfl⟩ := Int.eq_ofNat_of_zero_le hin.1
      have hcl : c < m.nodes.length := by omega
      obtain ⟨cs, ⟨hp, _⟩, s1, s2, _⟩ := hsn.rs.get (seenL_get m.nodes.length vis c hcl)
      subst hp
      rw [EE, Ex_run C_spec_l03Look_walk rfl]
      simp (config := {contextual := true, implicitDefEqProofs := false, maxSteps := 1000000}) only [
    ↓PR0, ↓PR1, ↓PR2, PO0, PO1, PO2, PO3, idxV_str, result, resOf, allSome, number, upd, List.map, Option.bind_some, Nat.reduceAdd, Nat.reduceSub, Nat.reduceLeDiff, Nat.reduceLT, Nat.reduceEqDiff, Nat.zero_add, Nat.add_zero, Nat.le_refl, 
    reduceIte, ne_eq, not_false_eq_true, and_self, true_and, and_true, reduceCtorEq, cond_true, cond_false, c_spec_l03Look_walk, pl, tl, w1, hwl, hd1, s1, s2, h201, decide_true, p1, Bool.not_true]
      cases vis.contains c <;> rfl
    · have hd1 : (decide (0 ≤ k) && decide (k ≤ (m.nodes.length : Int) - 1)) = false := by
        rw [Bool.and_eq_false_iff, decide_eq_false_iff_not, decide_eq_false_iff_not]; omega
      rw [EE, Ex_run C_spec_l03Look_walk rfl]
      simp (config := {contextual := true, implicitDefEqProofs := false, maxSteps := 1000000}) only [
    ↓PR0, ↓PR1, ↓PR2, PO0, PO1, PO2, PO3, idxV_str, result, resOf, allSome, number, upd, List.map, Option.bind_some, Nat.reduceAdd, Nat.reduceSub, Nat.reduceLeDiff, Nat.reduceLT, Nat.reduceEqDiff, Nat.zero_add, Nat.add_zero, Nat.le_refl, 
    reduceIte, ne_eq, not_false_eq_true, and_self, true_and, and_true, reduceCtorEq, cond_true, cond_false, c_spec_l03Look_walk, pl, tl, w1, hwl, hd1, h201, decide_true, p1, Bool.not_true, Bool.not_false]
  | succ f ih =>
    have ih' := ih (by omega)
    intro s k vis σ hs1 hs4 hc
    have hc0 := hc
    obtain ⟨σ1, p1, p2, p3⟩ := hc.fail
    obtain ⟨⟨dp, hob⟩, hsn, hpre, h4, h5, h6⟩ := hc
    have pl := fun bx o => hob.place bx o
    have w1 := fun a b c => l01In_eq'' (X := X) a b c σ
    have h201 : ¬ ((200 : Int) < 201 - ((f + 1 : Nat) : Int)) := by omega
    by_cases hin : 0 ≤ k ∧ k < m.nodes.length
    · have hd1 : (decide (0 ≤ k) && decide (k ≤ (m.nodes.length : Int) - 1)) = true := by
        rw [Bool.and_eq_true, decide_eq_true_eq, decide_eq_true_eq]; omega
      obtain ⟨c, rfl⟩ := Int.eq_ofNat_of_zero_le hin.1
      have hcl : c < m.nodes.length := by omega
      have hk := List.getElem?_eq_getElem hcl
      obtain ⟨cs, ⟨hp, _⟩, s1, s2, _⟩ := hsn.rs.get (seenL_get m.nodes.length vis c hcl)
      subst hp
      generalize m.nodes[c] = nd at hk
      have hwm : walkM m (f + 1) s c vis = if (rightM s nd.kind && (!(vis.contains c) && (nodeOK nd && decide ((sortsM nd).length = nd.kids.length)))) = true then walkL (walkM m f) m.root c (sortsM nd) nd.kids (c :: vis) else none := by
        simp only [walkM]
        rw [if_pos (by omega), Int.toNat_natCast, hk]
      cases hv : vis.contains c with
      | true =>
        have hwn : walkM m (f + 1) s c vis = none := by rw [hwm, hv]; simp
        rw [hv] at s2
        refine ⟨σ1, vis, ?_, p3, by rw [hwn]; exact p2, fun v h => by rw [hwn] at h; cases h⟩
        rw [EE, Ex_run C_spec_l03Look_walk rfl]
        simp (config := {contextual := true, implicitDefEqProofs := false, maxSteps := 1000000}) only [
    ↓PR0, ↓PR1, ↓PR2, PO0, PO1, PO2, PO3, idxV_str, result, resOf, allSome, number, upd, List.map, Option.bind_some, Nat.reduceAdd, Nat.reduceSub, Nat.reduceLeDiff, Nat.reduceLT, Nat.reduceEqDiff, Nat.zero_add, Nat.add_zero, Nat.le_refl, 
    reduceIte, ne_eq, not_false_eq_true, and_self, true_and, and_true, reduceCtorEq, cond_true, cond_false, c_spec_l03Look_walk, pl, tl, w1, hwl, hd1, s1, s2, h201, decide_false, p1, Bool.not_true]
      | false =>
        rw [hv] at s2
        rw [hv] at hwm
        obtain ⟨an, ak, hrn, _, hak, hn⟩ := hT.node hk
        have hsz := NodeM.size_le hk hs
        have hcl5 : (nc nd an ak).length = 5 := rfl
        -- the mark
        obtain ⟨σ2, m1, m2, m3⟩ := hsn.mark hcl
        have ob2 := hob.fr m3 (fun h => h6 h)
        have m3' : Fr (Two r sr) σ σ2 := m3.weak (fun x _ e => .inr e)
        have pl2 := fun bx o => ob2.place bx o
        have ia2 := hsn.rs.iadr .i64 (i := c) (by rw [seenL_len]; exact hcl)
        -- the depth
        obtain ⟨σ3, d1, d2, d3, _⟩ := ob2.write 4 [int (if (201 - ((f + 1 : Nat) : Int)) > dp then (201 - ((f + 1 : Nat) : Int)) else dp)] (by simp)
        have d3' : Fr (Two r sr) σ σ3 := m3'.step (d3.weak (fun x _ e => .inl e))
        have pre3 := hc0.pre2 d3'
        have lk3 : Lok τ m a r sr (c :: vis) true σ3 := ⟨⟨_, d2⟩, m2.fr d3 (fun e => h6 e.symm), pre3, h4, h5, h6⟩
        have pl3 := fun bx o => d2.place bx o
        obtain ⟨n1, n2, n3, n4⟩ := hn σ3 pre3
        have lx := fun k => l03Expr_eq (X := X) k σ3
        have ls := fun k => l03State_eq (X := X) k σ3
        -- the kids' sorts
        obtain ⟨as, σ4, k1, k2, k3⟩ := l03Kids_eq (X := X) σ3 nd _ (RNode.mono.pre hrn pre3) hsz
        have k2' : Fr (Two r sr) σ3 σ4 := k2.up
        have lk4 := lk3.next k2
        have pl4 : ∀ bx o, place ⟨bx, σ4⟩ (.v (.ptr r 0 0 o)) = some (upd [a, int m.root, .sl sr 0 0 m.nodes.length, .bool true, int dp] 4 [int (if (201 - ((f + 1 : Nat) : Int)) > dp then (201 - ((f + 1 : Nat) : Int)) else dp)], o) := fun bx o => (d2.pre k2).place bx o
        have slen := k3.1.len
        have klen := hak.len
        have scl := k3.1.cellsOf
        obtain ⟨σ5, q1, q2⟩ := l03Node_eq (X := X) σ4 nd _ (RNode.mono.pre hrn (pre3.pre k2)) hsz
        have lk5 := lk4.next q2
        obtain ⟨σf4, e1, e2, e3⟩ := lk4.fail
        obtain ⟨σf5, g1, g2, g3⟩ := lk5.fail
        have t4 : Fr (Two r sr) σ σf4 := (d3'.step k2').step e3
        have t5 : Fr (Two r sr) σ σf5 := ((d3'.step k2').step (Pre.up q2)).step g3
        cases hR : rightM s nd.kind with
        | false =>
          have hwn : walkM m (f + 1) s c vis = none := by rw [hwm, hR]; simp
          refine ⟨σf4, _, ?_, t4, by rw [hwn]; exact e2, fun v h => by rw [hwn] at h; cases h⟩
          rw [EE, Ex_run C_spec_l03Look_walk rfl]
          rcases right_false hs1 hs4 hR with ⟨rfl, hx, hy⟩ | ⟨rfl, hx, hy⟩ | ⟨rfl, hx, hy⟩ | ⟨rfl, hx, hy⟩
          all_goals (simp (config := {contextual := true, implicitDefEqProofs := false, maxSteps := 1000000}) only [
    ↓PR0, ↓PR1, ↓PR2, PO0, PO1, PO2, PO3, idxV_str, result, resOf, allSome, number, upd, List.map, Option.bind_some, Nat.reduceAdd, Nat.reduceSub, Nat.reduceLeDiff, Nat.reduceLT, Nat.reduceEqDiff, Nat.zero_add, Nat.add_zero, Nat.le_refl, 
    reduceIte, ne_eq, not_false_eq_true, and_self, true_and, and_true, reduceCtorEq, cond_true, cond_false, c_spec_l03Look_walk, pl, tl, w1, hwl, hd1, s1, s2, h201, decide_false, Bool.not_true, ia2, m1, pl2, d1, pl3, n1, n2, n3, n4, 
    ld_all hcl5, Int.reduceBEq, lx, ls, hx, hy, k1, scl, e1, Bool.not_false])
        | true =>
          rw [hR] at hwm
          cases hok : nodeOK nd with
          | false =>
            have hwn : walkM m (f + 1) s c vis = none := by rw [hwm, hok]; simp
            rw [hok] at q1
            refine ⟨σf5, _, ?_, t5, by rw [hwn]; exact g2, fun v h => by rw [hwn] at h; cases h⟩
            rw [EE, Ex_run C_spec_l03Look_walk rfl]
            rcases right_true hR with ⟨rfl, hx, hy⟩ | ⟨rfl, hx, hy⟩ | ⟨rfl, hx, hy⟩ | ⟨rfl, hx, hy⟩ | ⟨rfl, hx, hy⟩
            all_goals (simp (config := {contextual := true, implicitDefEqProofs := false, maxSteps := 1000000}) only [
    ↓PR0, ↓PR1, ↓PR2, PO0, PO1, PO2, PO3, idxV_str, result, resOf, allSome, number, upd, List.map, Option.bind_some, Nat.reduceAdd, Nat.reduceSub, Nat.reduceLeDiff, Nat.reduceLT, Nat.reduceEqDiff, Nat.zero_add, Nat.add_zero, Nat.le_refl, 
    reduceIte, ne_eq, not_false_eq_true, and_self, true_and, and_true, reduceCtorEq, cond_true, cond_false, c_spec_l03Look_walk, pl, tl, w1, hwl, hd1, s1, s2, h201, decide_false, Bool.not_true, ia2, m1, pl2, d1, pl3, n1, n2, n3, n4, 
    ld_all hcl5, Int.reduceBEq, lx, ls, hx, hy, k1, scl, q1, g1, Bool.not_false])
          | true =>
            rw [hok] at hwm q1
            by_cases hl : (sortsM nd).length = nd.kids.length
            · have hne : (((sortsM nd).length : Int) != (nd.kids.length : Int)) = false := by rw [hl]; simp
              have hdt : decide ((sortsM nd).length = nd.kids.length) = true := decide_eq_true hl
              rw [hdt] at hwm
              simp only [Bool.not_false, Bool.and_self, if_true] at hwm
              have hdep : Dep (fun x => ¬ Two r sr x) σ5 (fun st => RS RI 1 st (sortsM nd) as) := by
                have := (k3.dep1).pre q2
                have hlt := lk3.lt
                exact this.wide (fun x _ hx h => by rcases h with rfl | rfl <;> omega)
              obtain ⟨σ6, v6, f1, f2, f3, f4⟩ := walkS_loop (X := X) (R := AV × Store) (an := an) hT hs (by omega) ih' hk hak hl nd.kids.length 0 (c :: vis) true σ5 (by omega) lk5 hdep
              have hdeep : (201 : Int) - ((f + 1 : Nat) : Int) = 200 - (f : Int) := by omega
              have h200 : ¬ ((200 : Int) < 200 - (f : Int)) := by omega
              simp only [List.drop_zero, Int.cast_ofNat_Int, Bool.true_and] at f2 f3 f4
              refine ⟨σ6, v6, ?_, ((d3'.step k2').step (Pre.up q2)).step f1, by rw [hwm]; exact f2, fun v h => by rw [hwm] at h; exact f3 trivial v h⟩
              rw [hdeep] at d1 pl4 ⊢
              rw [EE, Ex_run C_spec_l03Look_walk rfl]
              rcases right_true hR with ⟨rfl, hx, hy⟩ | ⟨rfl, hx, hy⟩ | ⟨rfl, hx, hy⟩ | ⟨rfl, hx, hy⟩ | ⟨rfl, hx, hy⟩
              all_goals (simp (config := {contextual := true, implicitDefEqProofs := false, maxSteps := 1000000}) only [
    ↓PR0, ↓PR1, ↓PR2, PO0, PO1, PO2, PO3, idxV_str, result, resOf, allSome, number, upd, List.map, Option.bind_some, Nat.reduceAdd, Nat.reduceSub, Nat.reduceLeDiff, Nat.reduceLT, Nat.reduceEqDiff, Nat.zero_add, Nat.add_zero, Nat.le_refl, 
    reduceIte, ne_eq, not_false_eq_true, and_self, true_and, and_true, reduceCtorEq, cond_true, cond_false, c_spec_l03Look_walk, pl, tl, w1, hwl, hd1, s1, s2, h200, decide_false, Bool.not_true, ia2, m1, pl2, d1, pl3, n1, n2, n3, n4, 
    ld_all hcl5, Int.reduceBEq, lx, ls, hx, hy, k1, scl, q1, slen, klen, hne, f4, Bool.not_false])
            · have hne : (((sortsM nd).length : Int) != (nd.kids.length : Int)) = true := by rw [bne_iff_ne]; omega
              have hdt : decide ((sortsM nd).length = nd.kids.length) = false := decide_eq_false hl
              have hwn : walkM m (f + 1) s c vis = none := by rw [hwm, hdt]; simp
              refine ⟨σf5, _, ?_, t5, by rw [hwn]; exact g2, fun v h => by rw [hwn] at h; cases h⟩
              rw [EE, Ex_run C_spec_l03Look_walk rfl]
              rcases right_true hR with ⟨rfl, hx, hy⟩ | ⟨rfl, hx, hy⟩ | ⟨rfl, hx, hy⟩ | ⟨rfl, hx, hy⟩ | ⟨rfl, hx, hy⟩
              all_goals (simp (config := {contextual := true, implicitDefEqProofs := false, maxSteps := 1000000}) only [
    ↓PR0, ↓PR1, ↓PR2, PO0, PO1, PO2, PO3, idxV_str, result, resOf, allSome, number, upd, List.map, Option.bind_some, Nat.reduceAdd, Nat.reduceSub, Nat.reduceLeDiff, Nat.reduceLT, Nat.reduceEqDiff, Nat.zero_add, Nat.add_zero, Nat.le_refl, 
    reduceIte, ne_eq, not_false_eq_true, and_self, true_and, and_true, reduceCtorEq, cond_true, cond_false, c_spec_l03Look_walk, pl, tl, w1, hwl, hd1, s1, s2, h201, decide_false, Bool.not_true, ia2, m1, pl2, d1, pl3, n1, n2, n3, n4, 
    ld_all hcl5, Int.reduceBEq, lx, ls, hx, hy, k1, scl, q1, slen, klen, hne, g1, Bool.not_false])
    · have hd1 : (decide (0 ≤ k) && decide (k ≤ (m.nodes.length : Int) - 1)) = false := by
        rw [Bool.and_eq_false_iff, decide_eq_false_iff_not, decide_eq_false_iff_not]; omega
      have hwn := walkM_out (f := f + 1) (s := s) (vis := vis) hin
      refine ⟨σ1, vis, ?_, p3, by rw [hwn]; exact p2, fun v h => by rw [hwn] at h; cases h⟩
      rw [EE, Ex_run C_spec_l03Look_walk rfl]
      simp (config := {contextual := true, implicitDefEqProofs := false, maxSteps := 1000000}) only [
    ↓PR0, ↓PR1, ↓PR2, PO0, PO1, PO2, PO3, idxV_str, result, resOf, allSome, number, upd, List.map, Option.bind_some, Nat.reduceAdd, Nat.reduceSub, Nat.reduceLeDiff, Nat.reduceLT, Nat.reduceEqDiff, Nat.zero_add, Nat.add_zero, Nat.le_refl, 
    reduceIte, ne_eq, not_false_eq_true, and_self, true_and, and_true, reduceCtorEq, cond_true, cond_false, c_spec_l03Look_walk, pl, tl, w1, hwl, hd1, h201, decide_false, p1, Bool.not_true, Bool.not_false]
theorem l03Tree_loop {R : Type} {τ : Store} {m : TreeM} {a : AV} {r sr : Nat} (vis : List Nat) (hml : m.nodes.length ≤ 1048576) : ∀ d i ok σ, i + d = m.nodes.length → Lok τ m a r sr vis ok σ → ∃ σ', Fr (Two r sr) σ σ' ∧ Lok τ m a r sr vis (ok && ((List.range m.nodes.length).drop i).all (fun j => vis.contains j)) σ' ∧ ∀ kk : Out → S → Option R,
    loopK (EE X) [4, 5] l_spec_l03Tree_0 ([(4, .v (.ptr r 0 0 0)), (5, .v (int i))], ⟨[], σ⟩) kk = kk (.exit 0) ([(4, .v (.ptr r 0 0 0)), (5, .v (int m.nodes.length)), (27, .v (.bool false))], ⟨[], σ'⟩) := by
  intro d
  induction d with
  | zero =>
    intro i ok σ hi hc
    have e : i = m.nodes.length := by omega
    subst e
    have hc0 := hc
    obtain ⟨⟨dp, hob⟩, hsn, hrest⟩ := hc
    have pl := fun bx o => hob.place bx o
    have hl := hsn.rs.len
    rw [seenL_len] at hl
    refine ⟨σ, Fr.refl _ _, ?_, fun kk => ?_⟩
    · rw [List.drop_of_length_le (by simp)]; simpa using hc0
    · rw [loopK_step l_spec_l03Tree_0.eq_1]
      simp (config := {contextual := true, implicitDefEqProofs := false, maxSteps := 1000000}) only [
    ↓PR0, ↓PR1, ↓PR2, PO0, PO1, PO2, PO3, idxV_str, result, resOf, allSome, number, upd, List.map, Option.bind_some, Nat.reduceAdd, Nat.reduceSub, Nat.reduceLeDiff, Nat.reduceLT, Nat.reduceEqDiff, Nat.zero_add, Nat.add_zero, Nat.le_refl, 
    reduceIte, ne_eq, not_false_eq_true, and_self, true_and, and_true, reduceCtorEq, cond_true, cond_false, pl, hl, Int.lt_irrefl, decide_false]
  | succ d ih =>
    intro i ok σ hi hc
    have hlt : i < m.nodes.length := by omega
    have hlt' : (i : Int) < (m.nodes.length : Int) := by omega
    have hw : IntKind.i64.wrap ((i : Int) + 1) = ((i + 1 : Nat) : Int) := wrap64 (by omega) (by omega)
    have hc0 := hc
    obtain ⟨⟨dp, hob⟩, hsn, h3, h4, h5, h6⟩ := hc
    have pl := fun bx o => hob.place bx o
    have hl := hsn.rs.len
    rw [seenL_len] at hl
    obtain ⟨cs, ⟨hp, _⟩, s1, s2, _⟩ := hsn.rs.get (seenL_get m.nodes.length vis i hlt)
    subst hp
    obtain ⟨σ1, p1, p2, p3, _⟩ := hob.write 3 [.bool (ok && vis.contains i)] (by simp)
    have p3' : Fr (Two r sr) σ σ1 := p3.weak (fun x _ e => .inl e)
    obtain ⟨σ', f1, f2, f3⟩ := ih (i + 1) (ok && vis.contains i) σ1 (by omega) ⟨⟨dp, p2⟩, hsn.fr p3 (fun e => h6 e.symm), hc0.pre2 p3', h4, h5, h6⟩
    have hdr : (List.range m.nodes.length).drop i = i :: (List.range m.nodes.length).drop (i + 1) := by
      rw [List.drop_eq_getElem_cons (by simpa using hlt)]; simp
    refine ⟨σ', p3'.step f1, by rw [hdr, List.all_cons, ← Bool.and_assoc]; exact f2, fun kk => ?_⟩
    rw [← f3 kk, loopK_step l_spec_l03Tree_0.eq_1]
    cases ok with
    | true =>
      rw [Bool.true_and] at p1
      simp (config := {contextual := true, implicitDefEqProofs := false, maxSteps := 1000000}) only [
    ↓PR0, ↓PR1, ↓PR2, PO0, PO1, PO2, PO3, idxV_str, result, resOf, allSome, number, upd, List.map, Option.bind_some, Nat.reduceAdd, Nat.reduceSub, Nat.reduceLeDiff, Nat.reduceLT, Nat.reduceEqDiff, Nat.zero_add, Nat.add_zero, Nat.le_refl, 
    reduceIte, ne_eq, not_false_eq_true, and_self, true_and, and_true, reduceCtorEq, cond_true, cond_false, pl, hl, hlt', decide_true, s1, s2, p1, hw]
    | false =>
      rw [Bool.false_and] at p1
      simp (config := {contextual := true, implicitDefEqProofs := false, maxSteps := 1000000}) only [
    ↓PR0, ↓PR1, ↓PR2, PO0, PO1, PO2, PO3, idxV_str, result, resOf, allSome, number, upd, List.map, Option.bind_some, Nat.reduceAdd, Nat.reduceSub, Nat.reduceLeDiff, Nat.reduceLT, Nat.reduceEqDiff, Nat.zero_add, Nat.add_zero, Nat.le_refl, 
    reduceIte, ne_eq, not_false_eq_true, and_self, true_and, and_true, reduceCtorEq, cond_true, cond_false, pl, hl, hlt', decide_true, s1, s2, p1, hw]
theorem specTreeOK_eq (σ : Store) (m : TreeM) (cs : List AV) (h : RTree σ m cs) (hs : m.size ≤ 1048576) : ∃ σ', EE X f_spec_TreeOK [.agg cs] σ = some (.bool (treeOK m), σ') ∧ Pre σ σ' := by
  have key : ∃ σ' dp, EE X f_spec_l03Tree [.agg cs] σ = some (.tup [.bool (treeOK m), int dp], σ') ∧ Pre σ σ' := by
    have h' := h
    obtain ⟨a, rfl, ha, hr, hl⟩ := h
    have hml : m.nodes.length ≤ 1048576 := by simp only [TreeM.size] at hs; omega
    have hlen := ha.len
    have hc := ha.cellsOf
    by_cases h2 : 200 < m.nodes.length
    · have h2' : (200 : Int) < (m.nodes.length : Int) := by omega
      refine ⟨σ, 0, ?_, Fr.refl _ _⟩
      have e : treeOK m = false := by simp only [treeOK]; rw [decide_eq_false (by omega), Bool.false_and]
      rw [e, EE, Ex_run C_spec_l03Tree rfl]
      simp (config := {contextual := true, implicitDefEqProofs := false, maxSteps := 1000000}) only [
    ↓PR0, ↓PR1, ↓PR2, PO0, PO1, PO2, PO3, idxV_str, result, resOf, allSome, number, upd, List.map, Option.bind_some, Nat.reduceAdd, Nat.reduceSub, Nat.reduceLeDiff, Nat.reduceLT, Nat.reduceEqDiff, Nat.zero_add, Nat.add_zero, Nat.le_refl, 
    reduceIte, ne_eq, not_false_eq_true, and_self, true_and, and_true, reduceCtorEq, cond_true, cond_false, c_spec_l03Tree, hlen, hc, h2', decide_true]
    · have h2' : ¬ (200 : Int) < (m.nodes.length : Int) := by omega
      have e0 : treeOK m = (match walkM m 200 2 m.root [] with | none => false | some vis => (List.range m.nodes.length).all (fun i => vis.contains i)) := by simp only [treeOK]; rw [decide_eq_true (by omega), Bool.true_and]; rfl
      have hmk : (0 : Int) ≤ (m.nodes.length : Nat) ∧ ((m.nodes.length : Nat) : Int) ≤ (m.nodes.length : Nat) ∧ ((m.nodes.length : Nat) : Int) * ((1 : Nat) : Int) ≤ 140737488355328 ∧ ((m.nodes.length : Nat) : Int) ≤ 140737488355328 := by omega
      have o1 := ObjAt.new (σ ++ [(⟨List.replicate m.nodes.length [.bool false], 1, 0, .own⟩ : Row)]) [a, int m.root, .sl σ.length 0 0 m.nodes.length, .bool true, int 0]
      have hp0 : Pre (σ ++ [(⟨List.replicate m.nodes.length [.bool false], 1, 0, .own⟩ : Row)]) (σ ++ [(⟨List.replicate m.nodes.length [.bool false], 1, 0, .own⟩ : Row)] ++ [⟨[[a, int m.root, .sl σ.length 0 0 m.nodes.length, .bool true, int 0]], [a, int m.root, .sl σ.length 0 0 m.nodes.length, .bool true, int 0].length, 0, .own⟩]) := Pre.app _ _
      have hp2 := (Pre.app σ [(⟨List.replicate m.nodes.length [.bool false], 1, 0, .own⟩ : Row)]).pre hp0
      have hseen0 : SeenAt (σ ++ [(⟨List.replicate m.nodes.length [.bool false], 1, 0, .own⟩ : Row)]) σ.length m.nodes.length [] := by
        unfold SeenAt
        rw [List.getElem?_append_right (Nat.le_refl _), Nat.sub_self, seenL_nil]; rfl
      have hck : Lok σ m a (σ ++ [(⟨List.replicate m.nodes.length [.bool false], 1, 0, .own⟩ : Row)]).length σ.length [] true _ := ⟨⟨0, o1⟩, hseen0.fr hp0 (fun h => h), hp2, by simp, Nat.le_refl _, by simp⟩
      obtain ⟨σ4, vis, g1, g2, g3, g4⟩ := walkS_all (X := X) h' hs 200 (Nat.le_refl _) 2 m.root [] _ (by decide) (by decide) hck
      obtain ⟨σ5, f1, f2, f3⟩ := l03Tree_loop (X := X) (R := AV × Store) vis hml m.nodes.length 0 _ σ4 (by omega) g3
      have hp5 : Pre σ σ5 := g3.pre2 f1
      obtain ⟨⟨dp, hob⟩, _⟩ := f2
      have pl := fun bx o => hob.place bx o
      have hdeep : (201 : Int) - ((200 : Nat) : Int) = 1 := rfl
      rw [hdeep] at g1
      simp only [List.length_cons, List.length_nil, Nat.zero_add, Nat.reduceAdd] at g1
      simp only [Int.cast_ofNat_Int, List.drop_zero] at f3 pl
      refine ⟨σ5, dp, ?_, hp5⟩
      have e1 : treeOK m = ((walkM m 200 2 m.root []).isSome && (List.range m.nodes.length).all (fun j => vis.contains j)) := by
        rw [e0]
        cases hwk : walkM m 200 2 m.root [] with
        | none => rfl
        | some v => have := g4 v hwk; subst this; simp
      rw [e1, EE, Ex_run C_spec_l03Tree rfl]
      simp (config := {contextual := true, implicitDefEqProofs := false, maxSteps := 1000000}) only [
    ↓PR0, ↓PR1, ↓PR2, PO0, PO1, PO2, PO3, idxV_str, result, resOf, allSome, number, upd, List.map, Option.bind_some, Nat.reduceAdd, Nat.reduceSub, Nat.reduceLeDiff, Nat.reduceLT, Nat.reduceEqDiff, Nat.zero_add, Nat.add_zero, Nat.le_refl, 
    reduceIte, ne_eq, not_false_eq_true, and_self, true_and, and_true, reduceCtorEq, cond_true, cond_false, c_spec_l03Tree, hlen, hc, h2', decide_false, hmk, Int.toNat_natCast, g1, f3, pl]
  obtain ⟨σ', dp, h1, h2⟩ := key
  obtain ⟨a, rfl, ha, hr, hl⟩ := h
  have hc := ha.cellsOf
  refine ⟨σ', ?_, h2⟩
  rw [EE, Ex_run C_spec_TreeOK rfl]
  simp (config := {contextual := true, implicitDefEqProofs := false, maxSteps := 1000000}) only [
    ↓PR0, ↓PR1, ↓PR2, PO0, PO1, PO2, PO3, idxV_str, result, resOf, allSome, number, upd, List.map, Option.bind_some, Nat.reduceAdd, Nat.reduceSub, Nat.reduceLeDiff, Nat.reduceLT, Nat.reduceEqDiff, Nat.zero_add, Nat.add_zero, Nat.le_refl, 
    reduceIte, ne_eq, not_false_eq_true, and_self, true_and, and_true, reduceCtorEq, cond_true, cond_false, c_spec_TreeOK, hc, h1]
end Go.X
