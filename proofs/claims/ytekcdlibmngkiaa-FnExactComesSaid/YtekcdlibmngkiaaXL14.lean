/- Trees: functions; names that are brought into a scope, by the reference. -/
import Derived.Test.YtekcdlibmngkiaaXL12
set_option linter.unusedVariables false
set_option linter.unusedSimpArgs false
set_option maxRecDepth 20000
namespace Go.X
open Go
variable {X : Call}

abbrev cT (l : List (List UInt8)) : List (List AV) := l.map (fun t => [.str t])
theorem kidsM_root {m : TreeM} (hR : RightT m) : ∃ (c : Nat) (nd : NodeM), m.root = (c : Int) ∧ m.nodes[c]? = some nd ∧ kidsM m m.root = nd.kids ∧ nd.kind = 18 := by
  obtain ⟨h0, nd, h1, h2⟩ := hR.root
  exact ⟨m.root.toNat, nd, by omega, h1, by simp [kidsM, h1], h2⟩
theorem functions_loop {R : Type} {τ : Store} {m : TreeM} {a : AV} {r q : Nat} (hT : RTree τ m [a, int m.root]) (hR : RightT m) (hs : m.size ≤ 1048576) (hrq : r ≠ q) (hq : τ.length ≤ q) {nd : NodeM} (hsub : ∀ c ∈ nd.kids, c ∈ kidsM m m.root) (hnl : nd.kids.length ≤ 1048576) {ak : AV} (hak : RS RI 1 τ nd.kids ak) : ∀ d i (σ : Store) (out : List Int) (o : AV), i + d = nd.kids.length → out.length ≤ i → Pre τ σ → ObjAt σ r [a, int m.root] → OwR q σ 1 (cI out) o → ∃ o' σ', Pre τ σ' ∧ OwR q σ' 1 (cI (out ++ (nd.kids.drop i).filter (fun k => kindM m k == 20))) o' ∧ Fr (fun x => x = q) σ σ' ∧ ∀ kk : Out → S → Option R,
    loopK (EE X) [0, 3, 17, 18, 19] l_impl_Tree_functions_0 ([(0, .v (.ptr r 0 0 0)), (3, .v o), (17, .v ak), (18, .v (int nd.kids.length)), (19, .v (int i))], ⟨[], σ⟩) kk =
      kk (.exit 0) ([(0, .v (.ptr r 0 0 0)), (3, .v o'), (17, .v ak), (18, .v (int nd.kids.length)), (19, .v (int nd.kids.length)), (20, .v (.bool false))], ⟨[], σ'⟩) := by
  intro d
  induction d with
  | zero =>
    intro i σ out o hi ho hp hob hw
    have e : i = nd.kids.length := by omega
    subst e
    refine ⟨o, σ, hp, by simpa using hw, Fr.refl _ _, fun kk => ?_⟩
    rw [loopK_step l_impl_Tree_functions_0.eq_1]
    simp (config := {contextual := true, implicitDefEqProofs := false, maxSteps := 1000000}) only [
    ↓PR0, ↓PR1, ↓PR2, PO0, PO1, PO2, PO3, idxV_str, result, resOf, allSome, number, upd, List.map, Option.bind_some, Nat.reduceAdd, Nat.reduceSub, Nat.reduceLeDiff, Nat.reduceLT, Nat.reduceEqDiff, Nat.zero_add, Nat.add_zero, Nat.le_refl, 
    reduceIte, ne_eq, not_false_eq_true, and_self, true_and, and_true, reduceCtorEq, cond_true, cond_false, Int.lt_irrefl, decide_false]
  | succ d ih =>
    intro i σ out o hi ho hp hob hw
    have hlt : i < nd.kids.length := by omega
    have hlt' : (i : Int) < (nd.kids.length : Int) := by omega
    have hwi : IntKind.i64.wrap ((i : Int) + 1) = ((i + 1 : Nat) : Int) := wrap64 (by omega) (by omega)
    obtain ⟨c1, ⟨hp', _⟩, ha1, ha2, _⟩ := (hak.pre (RP.mono _ _) hp).get (List.getElem?_eq_getElem hlt)
    subst hp'
    have hmem := hsub _ (List.getElem_mem hlt)
    obtain ⟨rc, rnd, hr1, hr2, hr3, _⟩ := kidsM_root hR
    rw [hr3] at hmem
    obtain ⟨h0, h1, _⟩ := (hR.node rc rnd hr2).2.2.1 _ hmem
    obtain ⟨c, hc⟩ := Int.eq_ofNat_of_zero_le h0
    have hcl : c < m.nodes.length := by omega
    obtain ⟨an, ak', _, _, _, hn⟩ := hT.node (List.getElem?_eq_getElem hcl)
    obtain ⟨n1, n2, n3, n4⟩ := hn σ hp
    have pl := fun bx o => hob.place bx o
    have hkm : kindM m nd.kids[i] = m.nodes[c].kind := by simp only [kindM, hc, Int.toNat_natCast, List.getElem?_eq_getElem hcl]
    rw [List.drop_eq_getElem_cons hlt, List.filter_cons, hkm]
    rw [← hc] at n1
    cases hb : m.nodes[c].kind == 20 with
    | true =>
      obtain ⟨o1, σ1, g1, g2, g3⟩ := hw.app 8 [[int nd.kids[i]]] (by simp only [List.length_map, List.length_cons, List.length_nil]; omega)
      have hel : ∀ M, elsOf M 1 (.ls [[int nd.kids[i]]]) = some [[int nd.kids[i]]] := fun _ => rfl
      obtain ⟨o', σ', f1, f2, f3, f4⟩ := ih (i + 1) σ1 (out ++ [nd.kids[i]]) o1 (by omega) (by simp; omega) (hp.trans g3 (fun z h1 h2 => by omega)) (hob.fr g3 hrq) (by simpa [cI] using g2)
      refine ⟨o', σ', f1, by simpa using f2, g3.step f3, fun kk => ?_⟩
      rw [← f4 kk, loopK_step l_impl_Tree_functions_0.eq_1]
      simp (config := {contextual := true, implicitDefEqProofs := false, maxSteps := 1000000}) only [
    ↓PR0, ↓PR1, ↓PR2, PO0, PO1, PO2, PO3, idxV_str, result, resOf, allSome, number, upd, List.map, Option.bind_some, Nat.reduceAdd, Nat.reduceSub, Nat.reduceLeDiff, Nat.reduceLT, Nat.reduceEqDiff, Nat.zero_add, Nat.add_zero, Nat.le_refl, 
    reduceIte, ne_eq, not_false_eq_true, and_self, true_and, and_true, reduceCtorEq, cond_true, cond_false, hlt', decide_true, ha1, ha2, pl, n1, n2, n3, n4, hb, hel, List.replicate_succ, List.replicate_zero, List.set_cons_zero, g1, hwi]
    | false =>
      obtain ⟨o', σ', f1, f2, f3, f4⟩ := ih (i + 1) σ out o (by omega) (by omega) hp hob hw
      refine ⟨o', σ', f1, by simpa using f2, f3, fun kk => ?_⟩
      rw [← f4 kk, loopK_step l_impl_Tree_functions_0.eq_1]
      simp (config := {contextual := true, implicitDefEqProofs := false, maxSteps := 1000000}) only [
    ↓PR0, ↓PR1, ↓PR2, PO0, PO1, PO2, PO3, idxV_str, result, resOf, allSome, number, upd, List.map, Option.bind_some, Nat.reduceAdd, Nat.reduceSub, Nat.reduceLeDiff, Nat.reduceLT, Nat.reduceEqDiff, Nat.zero_add, Nat.add_zero, Nat.le_refl, 
    reduceIte, ne_eq, not_false_eq_true, and_self, true_and, and_true, reduceCtorEq, cond_true, cond_false, hlt', decide_true, ha1, ha2, pl, n1, n2, n3, n4, hb, hwi]
theorem functions_eq {τ σ : Store} {m : TreeM} {a : AV} {r : Nat} (hT : RTree τ m [a, int m.root]) (hR : RightT m) (hs : m.size ≤ 1048576) (hp : Pre τ σ) (hob : ObjAt σ r [a, int m.root]) : ∃ o σ', EE X f_impl_Tree_functions [.ptr r 0 0 0] σ = some (o, σ') ∧ Pre σ σ' ∧ RSO (fun _ _ => RI) 1 σ.length σ'.length σ' (funcsM m) o := by
  obtain ⟨c, nd, h1, h2, h3, h4⟩ := kidsM_root hR
  obtain ⟨an, ak, hrn, _, hak, hn⟩ := hT.node h2
  have hsz := NodeM.size_le h2 hs
  have hnl : nd.kids.length ≤ 1048576 := by simp only [NodeM.size] at hsz; omega
  have q1 := Pre.app σ [(⟨[], 1, 0, .own⟩ : Row)]
  have hp1 := hp.pre q1
  have ob1 := hob.pre q1
  obtain ⟨n1, n2, n3, n4⟩ := hn _ hp1
  have pl := fun bx o => ob1.place bx o
  have kl := hak.len
  obtain ⟨o', σ', f1, f2, f3, f4⟩ := functions_loop (X := X) (R := AV × Store) (q := σ.length) hT hR hs (by have := hob.lt; omega) hp.1 (nd := nd) (by rw [h3]; exact fun c hc => hc) hnl hak nd.kids.length 0 _ [] _ (by omega) (by simp) hp1 ob1 (by simpa using OwR.new σ [] 1)
  have hfm : funcsM m = nd.kids.filter (fun k => kindM m k == 20) := by simp only [funcsM, h3]
  simp only [Int.cast_ofNat_Int, List.drop_zero, List.nil_append, ← hfm] at f2 f4
  rw [← h1] at n1
  refine ⟨o', σ', ?_, q1.trans f3 (fun x h1 h2 => by omega), ⟨f2.rs (All2.map (fun x hx => ⟨rfl, ?_⟩)), f2.ka (Nat.le_refl _) f2.lt⟩⟩
  · rw [EE, Ex_run C_impl_Tree_functions rfl]
    simp (config := {contextual := true, implicitDefEqProofs := false, maxSteps := 1000000}) only [
    ↓PR0, ↓PR1, ↓PR2, PO0, PO1, PO2, PO3, idxV_str, result, resOf, allSome, number, upd, List.map, Option.bind_some, Nat.reduceAdd, Nat.reduceSub, Nat.reduceLeDiff, Nat.reduceLT, Nat.reduceEqDiff, Nat.zero_add, Nat.add_zero, Nat.le_refl, 
    reduceIte, ne_eq, not_false_eq_true, and_self, true_and, and_true, reduceCtorEq, cond_true, cond_false, c_impl_Tree_functions, pl, n1, n2, n3, n4, kl, List.replicate_zero, f4]
  · have := hR.funcIn hx
    have := hR.len
    unfold I64; omega

/-! ### A scope -/

structure ScM where
  names : List (List UInt8)
  start : Nat
  most : Int
  fc : Int
  fn : Int
def ScM.fail (s : ScM) (c n : Int) : ScM := if (s.fc == 0) = true then { s with fc := c, fn := n } else s
def ScM.bring (s : ScM) (t : List UInt8) (n : Int) : ScM :=
  let s1 := if ((s.names.drop s.start).any (fun x => x == t)) = true then s.fail 12 n else s
  let s2 : ScM := { s1 with names := s.names ++ [t], most := if ((s.names.length + 1 : Nat) : Int) > s.most then ((s.names.length + 1 : Nat) : Int) else s.most }
  if 20 < s.names.length + 1 then s2.fail 7 n else s2
def ScM.cells (s : ScM) (a : AV) (root : Int) (an : AV) : List AV := [a, int root, an, int s.start, int s.most, int s.fc, int s.fn]
/-- The scope in row r. -/
def Sco (τ : Store) (m : TreeM) (a : AV) (r : Nat) (s : ScM) (σ : Store) : Prop := ∃ an, ObjAt σ r (s.cells a m.root an) ∧ Dep (fun x => x ≠ r) σ (fun st => RS RT 1 st s.names an) ∧ Pre τ σ ∧ τ.length ≤ r ∧ s.start ≤ s.names.length ∧ s.names.length ≤ 2000000
theorem Sco.next {τ : Store} {m : TreeM} {a : AV} {r : Nat} {s : ScM} {σ σ' : Store} (h : Sco τ m a r s σ) (k : Pre σ σ') : Sco τ m a r s σ' := by
  obtain ⟨an, h1, h2, h3, h4⟩ := h
  exact ⟨an, h1.pre k, h2.pre k, h3.pre k, h4⟩
theorem sfail_eq {τ : Store} {m : TreeM} {a : AV} {r : Nat} {s : ScM} {σ : Store} (h : Sco τ m a r s σ) (c n : Int) : ∃ σ', EE X f_spec_l04Scope_fail [.ptr r 0 0 0, int c, int n] σ = some (.tup [], σ') ∧ Fr (fun x => x = r) σ σ' ∧ Sco τ m a r (s.fail c n) σ' := by
  have h0 := h
  obtain ⟨an, h1, h2, h3, h4, h5, h6⟩ := h
  have pl := fun bx o => h1.place bx o
  simp only [ScM.cells] at pl
  cases hb : s.fc == 0 with
  | true =>
    obtain ⟨σ', p1, p2, p3, p4⟩ := h1.write 5 [int c, int n] (by simp [ScM.cells])
    have e : s.fail c n = { s with fc := c, fn := n } := by simp [ScM.fail, hb]
    refine ⟨σ', ?_, p3, ?_⟩
    · rw [EE, Ex_run C_spec_l04Scope_fail rfl]
      simp (config := {contextual := true, implicitDefEqProofs := false, maxSteps := 1000000}) only [
    ↓PR0, ↓PR1, ↓PR2, PO0, PO1, PO2, PO3, idxV_str, result, resOf, allSome, number, upd, List.map, Option.bind_some, Nat.reduceAdd, Nat.reduceSub, Nat.reduceLeDiff, Nat.reduceLT, Nat.reduceEqDiff, Nat.zero_add, Nat.add_zero, Nat.le_refl, 
    reduceIte, ne_eq, not_false_eq_true, and_self, true_and, and_true, reduceCtorEq, cond_true, cond_false, c_spec_l04Scope_fail, pl, hb, p1]
    · rw [e]
      exact ⟨an, p2, h2.fr p3 (fun x _ h h' => h h'), h3.trans p3 (fun x h7 h8 => by omega), h4, h5, h6⟩
  | false =>
    have e : s.fail c n = s := by simp [ScM.fail, hb]
    refine ⟨σ, ?_, Fr.refl _ _, by rw [e]; exact h0⟩
    rw [EE, Ex_run C_spec_l04Scope_fail rfl]
    simp (config := {contextual := true, implicitDefEqProofs := false, maxSteps := 1000000}) only [
    ↓PR0, ↓PR1, ↓PR2, PO0, PO1, PO2, PO3, idxV_str, result, resOf, allSome, number, upd, List.map, Option.bind_some, Nat.reduceAdd, Nat.reduceSub, Nat.reduceLeDiff, Nat.reduceLT, Nat.reduceEqDiff, Nat.zero_add, Nat.add_zero, Nat.le_refl, 
    reduceIte, ne_eq, not_false_eq_true, and_self, true_and, and_true, reduceCtorEq, cond_true, cond_false, c_spec_l04Scope_fail, pl, hb]
theorem ScM.fail_names (s : ScM) (c n : Int) : (s.fail c n).names = s.names ∧ (s.fail c n).start = s.start ∧ (s.fail c n).most = s.most := by
  unfold ScM.fail; split <;> exact ⟨rfl, rfl, rfl⟩
theorem ScM.fail_fail (s : ScM) (c n : Int) (hc : c ≠ 0) : (s.fail c n).fail c n = s.fail c n := by
  unfold ScM.fail
  cases h : s.fc == 0 with
  | true =>
    have : (c == 0) = false := by simpa using hc
    simp [this]
  | false => simp [h]
theorem bring_loop {R : Type} {τ : Store} {m : TreeM} {a : AV} {r : Nat} (t : List UInt8) (n : Int) : ∀ d i (s : ScM) (σ : Store), i + d = s.names.length → Sco τ m a r s σ → ∃ σ', Fr (fun x => x = r) σ σ' ∧ Sco τ m a r (if ((s.names.drop i).any (fun x => x == t)) = true then s.fail 12 n else s) σ' ∧ ∀ kk : Out → S → Option R,
    loopK (EE X) [0, 1, 2, 6] l_spec_l04Scope_bring_0 ([(0, .v (.ptr r 0 0 0)), (1, .v (.str t)), (2, .v (int n)), (6, .v (int i))], ⟨[], σ⟩) kk = kk (.exit 0) ([(0, .v (.ptr r 0 0 0)), (1, .v (.str t)), (2, .v (int n)), (6, .v (int s.names.length)), (17, .v (.bool false))], ⟨[], σ'⟩) := by
  intro d
  induction d with
  | zero =>
    intro i s σ hi h
    have e : i = s.names.length := by omega
    subst e
    have h0 := h
    obtain ⟨an, h1, h2, h3, h4, h5, h6⟩ := h
    have pl := fun bx o => h1.place bx o
    simp only [ScM.cells] at pl
    have hl := h2.self.len
    refine ⟨σ, Fr.refl _ _, by simpa using h0, fun kk => ?_⟩
    rw [loopK_step l_spec_l04Scope_bring_0.eq_1]
    simp (config := {contextual := true, implicitDefEqProofs := false, maxSteps := 1000000}) only [
    ↓PR0, ↓PR1, ↓PR2, PO0, PO1, PO2, PO3, idxV_str, result, resOf, allSome, number, upd, List.map, Option.bind_some, Nat.reduceAdd, Nat.reduceSub, Nat.reduceLeDiff, Nat.reduceLT, Nat.reduceEqDiff, Nat.zero_add, Nat.add_zero, Nat.le_refl, 
    reduceIte, ne_eq, not_false_eq_true, and_self, true_and, and_true, reduceCtorEq, cond_true, cond_false, pl, hl, Int.lt_irrefl, decide_false]
  | succ d ih =>
    intro i s σ hi h
    have h0 := h
    obtain ⟨an, h1, h2, h3, h4, h5, h6⟩ := h
    have hlt : i < s.names.length := by omega
    have hlt' : (i : Int) < (s.names.length : Int) := by omega
    have hwi : IntKind.i64.wrap ((i : Int) + 1) = ((i + 1 : Nat) : Int) := wrap64 (by omega) (by omega)
    have pl := fun bx o => h1.place bx o
    simp only [ScM.cells] at pl
    have hl := h2.self.len
    obtain ⟨c1, ⟨hp', _⟩, ha1, ha2, _⟩ := h2.self.get (List.getElem?_eq_getElem hlt)
    subst hp'
    rw [List.drop_eq_getElem_cons hlt, List.any_cons]
    cases hb : s.names[i] == t with
    | true =>
      obtain ⟨σ1, g1, g2, g3⟩ := sfail_eq (X := X) h0 12 n
      have hnm := s.fail_names 12 n
      obtain ⟨σ', f1, f2, f3⟩ := ih (i + 1) (s.fail 12 n) σ1 (by rw [hnm.1]; omega) g3
      refine ⟨σ', g2.step f1, ?_, fun kk => ?_⟩
      · rw [Bool.true_or, if_pos rfl]
        split at f2
        · rw [ScM.fail_fail _ _ _ (by decide)] at f2; exact f2
        · exact f2
      · rw [hnm.1] at f3
        rw [← f3 kk, loopK_step l_spec_l04Scope_bring_0.eq_1]
        simp (config := {contextual := true, implicitDefEqProofs := false, maxSteps := 1000000}) only [
    ↓PR0, ↓PR1, ↓PR2, PO0, PO1, PO2, PO3, idxV_str, result, resOf, allSome, number, upd, List.map, Option.bind_some, Nat.reduceAdd, Nat.reduceSub, Nat.reduceLeDiff, Nat.reduceLT, Nat.reduceEqDiff, Nat.zero_add, Nat.add_zero, Nat.le_refl, 
    reduceIte, ne_eq, not_false_eq_true, and_self, true_and, and_true, reduceCtorEq, cond_true, cond_false, pl, hl, hlt', decide_true, ha1, ha2, hb, g1, hwi]
    | false =>
      obtain ⟨σ', f1, f2, f3⟩ := ih (i + 1) s σ (by omega) h0
      refine ⟨σ', f1, by rw [Bool.false_or]; exact f2, fun kk => ?_⟩
      rw [← f3 kk, loopK_step l_spec_l04Scope_bring_0.eq_1]
      simp (config := {contextual := true, implicitDefEqProofs := false, maxSteps := 1000000}) only [
    ↓PR0, ↓PR1, ↓PR2, PO0, PO1, PO2, PO3, idxV_str, result, resOf, allSome, number, upd, List.map, Option.bind_some, Nat.reduceAdd, Nat.reduceSub, Nat.reduceLeDiff, Nat.reduceLT, Nat.reduceEqDiff, Nat.zero_add, Nat.add_zero, Nat.le_refl, 
    reduceIte, ne_eq, not_false_eq_true, and_self, true_and, and_true, reduceCtorEq, cond_true, cond_false, pl, hl, hlt', decide_true, ha1, ha2, hb, hwi]
theorem bring_eq {τ : Store} {m : TreeM} {a : AV} {r : Nat} {s : ScM} {σ : Store} (h : Sco τ m a r s σ) (t : List UInt8) (ht : LenOk t.length) (n : Int) (hl : s.names.length < 2000000) : ∃ σ', EE X f_spec_l04Scope_bring [.ptr r 0 0 0, .str t, int n] σ = some (.tup [], σ') ∧ Fr (fun x => x = r) σ σ' ∧ Sco τ m a r (s.bring t n) σ' := by
  have h0 := h
  obtain ⟨an, h1, h2, h3, h4, h5, h6⟩ := h
  have pl := fun bx o => h1.place bx o
  simp only [ScM.cells] at pl
  -- twice
  obtain ⟨σ1, f1, f2, f3⟩ := bring_loop (X := X) (R := AV × Store) t n (s.names.length - s.start) s.start s σ (by omega) h0
  generalize hs1 : (if ((s.names.drop s.start).any (fun x => x == t)) = true then s.fail 12 n else s) = s1 at f2
  have e1 : s1.names = s.names ∧ s1.start = s.start ∧ s1.most = s.most := by
    rw [← hs1]; split
    · exact s.fail_names 12 n
    · exact ⟨rfl, rfl, rfl⟩
  obtain ⟨an1, o1, d1, p1, _, _, _⟩ := f2
  have pl1 := fun bx o => o1.place bx o
  simp only [ScM.cells] at pl1
  -- the copy
  have q2 := Pre.app σ1 [(⟨[], 1, 0, .own⟩ : Row)]
  have w2 := OwR.new σ1 [] 1
  have d2 := d1.pre q2
  have o2 := o1.pre q2
  have pl2 := fun bx o => o2.place bx o
  simp only [ScM.cells] at pl2
  obtain ⟨els, s1e, s2e⟩ := d2.self
  have ee := fun bx => s1e.els bx
  have hel : els.length = s1.names.length := s2e.length.symm
  obtain ⟨a3, σ3, g1, g2, g3⟩ := w2.app 16 els (by rw [hel, e1.1]; simp only [List.length_nil]; omega)
  have hels : ∀ M, elsOf M 1 (.ls [[.str t]]) = some [[.str t]] := fun _ => rfl
  obtain ⟨a4, σ4, g4, g5, g6⟩ := g2.app 16 [[.str t]] (by rw [List.nil_append, hel, e1.1]; simp only [List.length_cons, List.length_nil]; omega)
  simp only [List.length_nil] at g1 pl2
  have hrlt := o1.lt
  have f34 : Fr (fun x => x = σ1.length) (σ1 ++ [(⟨[], 1, 0, .own⟩ : Row)]) σ4 := g3.step g6
  have o4 := o2.fr f34 (by omega)
  have pre14 : Pre σ1 σ4 := q2.trans f34 (fun x h1 h2 => by omega)
  -- stores
  obtain ⟨σ5, x1, x2, x3, x4⟩ := o4.write 2 [a4] (by simp [ScM.cells])
  have g5' := g5.fr x3 (by omega)
  have hw4 : cellsOf a4 = some [a4] := g5.slAt.cellsOf
  have rs4 : Dep (fun x => x ≠ r) σ4 (fun st => RS RT 1 st (s1.names ++ [t]) a4) := by
    have hA : All2 (RT σ4) (s1.names ++ [t]) ([] ++ els ++ [[.str t]]) := by
      rw [List.nil_append]; exact (s2e.imp (fun _ _ h => h)).snoc ⟨rfl, ht⟩
    have : RSO (fun _ _ => RT) 1 σ1.length (σ1.length + 1) σ4 (s1.names ++ [t]) a4 := ⟨g5.rs hA, g5.ka (Nat.le_refl _) (Nat.lt_succ_self _)⟩
    exact this.dep1.wide (fun x _ hx => by omega)
  have hl4 : lenV false a4 = some (.int .i64 ((s.names.length + 1 : Nat) : Int)) := by have := rs4.self.len; rw [this, e1.1]; simp
  have pl5 := fun bx o => x2.place bx o
  have hu : upd (s1.cells a m.root an1) 2 [a4] = [a, int m.root, a4, int s1.start, int s1.most, int s1.fc, int s1.fn] := rfl
  rw [hu] at x2
  have pl5 := fun bx o => x2.place bx o
  obtain ⟨σ6, y1, y2, y3, y4⟩ := x2.write 4 [int (if ((s.names.length + 1 : Nat) : Int) > s.most then ((s.names.length + 1 : Nat) : Int) else s.most)] (by simp)
  have hu2 : upd [a, int m.root, a4, int s1.start, int s1.most, int s1.fc, int s1.fn] 4 [int (if ((s.names.length + 1 : Nat) : Int) > s.most then ((s.names.length + 1 : Nat) : Int) else s.most)] = [a, int m.root, a4, int s1.start, int (if ((s.names.length + 1 : Nat) : Int) > s.most then ((s.names.length + 1 : Nat) : Int) else s.most), int s1.fc, int s1.fn] := rfl
  rw [hu2] at y2
  have pl6 := fun bx o => y2.place bx o
  rw [e1.2.2] at pl5
  have fr46 : Fr (fun x => x = r) σ4 σ6 := x3.step y3
  have fr16 : Fr (fun x => x = r) σ1 σ6 := (Pre.up pre14).step fr46
  have sc6 : Sco τ m a r { s1 with names := s.names ++ [t], most := if ((s.names.length + 1 : Nat) : Int) > s.most then ((s.names.length + 1 : Nat) : Int) else s.most } σ6 :=
    ⟨a4, y2, (by have := rs4.fr fr46 (fun x _ h h' => h h'); rw [e1.1] at this; exact this), p1.trans fr16 (fun x h7 h8 => by omega), h4, by show s1.start ≤ (s.names ++ [t]).length; rw [e1.2.1]; simp; omega, by show (s.names ++ [t]).length ≤ _; simp; omega⟩
  have hb : s.bring t n = if 20 < s.names.length + 1 then ScM.fail { s1 with names := s.names ++ [t], most := if ((s.names.length + 1 : Nat) : Int) > s.most then ((s.names.length + 1 : Nat) : Int) else s.most } 7 n else { s1 with names := s.names ++ [t], most := if ((s.names.length + 1 : Nat) : Int) > s.most then ((s.names.length + 1 : Nat) : Int) else s.most } := by
    rw [← hs1]; rfl
  have hst : int (s.start : Nat) = int s.start := rfl
  by_cases h20 : 20 < s.names.length + 1
  · have h20' : (20 : Int) < ((s.names.length + 1 : Nat) : Int) := by omega
    obtain ⟨σ7, z1, z2, z3⟩ := sfail_eq (X := X) sc6 7 n
    refine ⟨σ7, ?_, (f1.step fr16).step z2, by rw [hb, if_pos h20]; exact z3⟩
    rw [EE, Ex_run C_spec_l04Scope_bring rfl]
    simp (config := {contextual := true, implicitDefEqProofs := false, maxSteps := 1000000}) only [
    ↓PR0, ↓PR1, ↓PR2, PO0, PO1, PO2, PO3, idxV_str, result, resOf, allSome, number, upd, List.map, Option.bind_some, Nat.reduceAdd, Nat.reduceSub, Nat.reduceLeDiff, Nat.reduceLT, Nat.reduceEqDiff, Nat.zero_add, Nat.add_zero, Nat.le_refl, 
    reduceIte, ne_eq, not_false_eq_true, and_self, true_and, and_true, reduceCtorEq, cond_true, cond_false, c_spec_l04Scope_bring, pl, f3, pl2, List.replicate_succ, List.replicate_zero, List.set_cons_zero, ee, g1, hels, g4, hw4, x1, pl5, 
    hl4, y1, pl6, h20', decide_true, z1]
  · have h20' : ¬ (20 : Int) < ((s.names.length + 1 : Nat) : Int) := by omega
    refine ⟨σ6, ?_, f1.step fr16, by rw [hb, if_neg h20]; exact sc6⟩
    rw [EE, Ex_run C_spec_l04Scope_bring rfl]
    simp (config := {contextual := true, implicitDefEqProofs := false, maxSteps := 1000000}) only [
    ↓PR0, ↓PR1, ↓PR2, PO0, PO1, PO2, PO3, idxV_str, result, resOf, allSome, number, upd, List.map, Option.bind_some, Nat.reduceAdd, Nat.reduceSub, Nat.reduceLeDiff, Nat.reduceLT, Nat.reduceEqDiff, Nat.zero_add, Nat.add_zero, Nat.le_refl, 
    reduceIte, ne_eq, not_false_eq_true, and_self, true_and, and_true, reduceCtorEq, cond_true, cond_false, c_spec_l04Scope_bring, pl, f3, pl2, List.replicate_succ, List.replicate_zero, List.set_cons_zero, ee, g1, hels, g4, hw4, x1, pl5, 
    hl4, y1, pl6, h20', decide_false]
end Go.X
