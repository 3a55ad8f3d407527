/- Trees: the names with which a function begins, of both. -/
import Derived.Test.YtekcdlibmngkiaaXL14
set_option linter.unusedVariables false
set_option linter.unusedSimpArgs false
set_option maxRecDepth 20000
namespace Go.X
open Go
variable {X : Call}

def pathT : List UInt8 := [112, 97, 116, 104]
def namesAt (m : TreeM) (k : Int) : List (List UInt8) := match m.nodes[k.toNat]? with | none => [] | some n => n.names
def beginsM (m : TreeM) (k : Int) : List (List UInt8) := if k = m.root then [pathT] else namesAt m k
/-- The code of a function, or the outmost block, of a tree. -/
def scopeM (m : TreeM) (k : Int) : Int := if treeOK m = true then (if (k != m.root && !((funcsM m).any (fun x => k == x))) = true then 13 else 0) else 1
theorem scopeM_ok {m : TreeM} {k : Int} (h : scopeM m k = 0) : RightT m ∧ (k = m.root ∨ (k ≠ m.root ∧ k ∈ funcsM m)) ∧ 0 ≤ k ∧ k < m.nodes.length := by
  unfold scopeM at h
  split at h
  · rename_i ht
    have hR := treeOK_right ht
    split at h
    · omega
    · rename_i hd
      simp only [Bool.and_eq_true, bne_iff_ne, ne_eq, Bool.not_eq_true', List.any_eq_false, beq_iff_eq, not_and, Classical.not_forall, Decidable.not_not] at hd
      by_cases e : k = m.root
      · obtain ⟨h0, nd, h1, _⟩ := hR.root
        have := (List.getElem?_eq_some_iff.1 h1).1
        exact ⟨hR, .inl e, by omega, by omega⟩
      · obtain ⟨x, hx, rfl⟩ := hd e
        have := hR.funcIn hx
        exact ⟨hR, .inr ⟨e, hx⟩, this.1, this.2.1⟩
  · omega
theorem namesAt_len {m : TreeM} {k : Int} (hs : m.size ≤ 1048576) : (beginsM m k).length ≤ 1048576 ∧ ∀ t ∈ beginsM m k, t.length ≤ 1048576 := by
  unfold beginsM
  split
  · exact ⟨by simp, fun t ht => by rw [List.mem_singleton] at ht; subst ht; decide⟩
  · unfold namesAt
    cases hn : m.nodes[k.toNat]? with
    | none => exact ⟨by simp, fun t ht => by cases ht⟩
    | some n =>
      have := NodeM.size_le hn hs
      simp only [NodeM.size] at this
      refine ⟨by simp only; omega, fun t ht => ?_⟩
      have key : ∀ (l : List (List UInt8)), t ∈ l → t.length ≤ sumL l := by
        intro l
        induction l with
        | nil => intro h; cases h
        | cons b l ih =>
          intro h
          rcases List.mem_cons.1 h with rfl | h
          · simp [sumL]
          · have := ih h; simp [sumL]; omega
      have := key n.names ht
      omega

/-! ### The program -/

theorem askedScope_eq (hX : RepX X) (σ : Store) (m : TreeM) (cs : List AV) (k : Int) (h : RTree σ m cs) (hs : m.size ≤ 1048576) : ∃ σ', EE X f_impl_askedScope [.agg cs, int k] σ = some (int (scopeM m k), σ') ∧ Pre σ σ' := by
  have h0 := h
  obtain ⟨a, rfl, ha, hr, hl⟩ := h0
  have hc := ha.cellsOf
  have o1 := ObjAt.new σ [a, int m.root]
  have q1 := Pre.app σ [(⟨[[a, int m.root]], [a, int m.root].length, 0, .own⟩ : Row)]
  obtain ⟨σ2, g1, g2⟩ := implTreeOK_eq (X := X) hX _ m _ (RTree.mono.pre h q1) hs
  have o2 := o1.pre g2
  have pl1 := fun bx o => o1.place bx o
  have pl2 := fun bx o => o2.place bx o
  simp only [List.length_cons, List.length_nil, Nat.zero_add, Nat.reduceAdd] at g1 pl1
  cases ht : treeOK m with
  | false =>
    rw [ht] at g1
    refine ⟨σ2, ?_, q1.pre g2⟩
    rw [EE, Ex_run C_impl_askedScope rfl]
    simp (config := {contextual := true, implicitDefEqProofs := false, maxSteps := 1000000}) only [
    ↓PR0, ↓PR1, ↓PR2, PO0, PO1, PO2, PO3, idxV_str, result, resOf, allSome, number, upd, List.map, Option.bind_some, Nat.reduceAdd, Nat.reduceSub, Nat.reduceLeDiff, Nat.reduceLT, Nat.reduceEqDiff, Nat.zero_add, Nat.add_zero, Nat.le_refl, 
    reduceIte, ne_eq, not_false_eq_true, and_self, true_and, and_true, reduceCtorEq, cond_true, cond_false, c_impl_askedScope, hc, pl1, g1, Bool.not_false]
    simp [scopeM, ht]
  | true =>
    rw [ht] at g1
    have hR := treeOK_right ht
    obtain ⟨o, σ3, f1, f2, f3⟩ := functions_eq (X := X) (τ := σ) h hR hs (q1.pre g2) o2
    have hci := contI_eq (X := X) σ3 (funcsM m) o k f3.1 (by
      obtain ⟨c, nd, h1, h2, h3, h4⟩ := kidsM_root hR
      have := NodeM.size_le h2 hs
      simp only [NodeM.size] at this
      have : (funcsM m).length ≤ nd.kids.length := by simp only [funcsM, h3]; exact List.length_filter_le _ _
      omega)
    cases hne : k != m.root with
    | false =>
      refine ⟨σ2, ?_, q1.pre g2⟩
      rw [EE, Ex_run C_impl_askedScope rfl]
      simp (config := {contextual := true, implicitDefEqProofs := false, maxSteps := 1000000}) only [
    ↓PR0, ↓PR1, ↓PR2, PO0, PO1, PO2, PO3, idxV_str, result, resOf, allSome, number, upd, List.map, Option.bind_some, Nat.reduceAdd, Nat.reduceSub, Nat.reduceLeDiff, Nat.reduceLT, Nat.reduceEqDiff, Nat.zero_add, Nat.add_zero, Nat.le_refl, 
    reduceIte, ne_eq, not_false_eq_true, and_self, true_and, and_true, reduceCtorEq, cond_true, cond_false, c_impl_askedScope, hc, pl1, g1, Bool.not_true, pl2, hne]
      simp [scopeM, ht, hne]
    | true =>
      refine ⟨σ3, ?_, (q1.pre g2).pre f2⟩
      rw [EE, Ex_run C_impl_askedScope rfl]
      simp (config := {contextual := true, implicitDefEqProofs := false, maxSteps := 1000000}) only [
    ↓PR0, ↓PR1, ↓PR2, PO0, PO1, PO2, PO3, idxV_str, result, resOf, allSome, number, upd, List.map, Option.bind_some, Nat.reduceAdd, Nat.reduceSub, Nat.reduceLeDiff, Nat.reduceLT, Nat.reduceEqDiff, Nat.zero_add, Nat.add_zero, Nat.le_refl, 
    reduceIte, ne_eq, not_false_eq_true, and_self, true_and, and_true, reduceCtorEq, cond_true, cond_false, c_impl_askedScope, hc, pl1, g1, Bool.not_true, pl2, hne, f1, hci]
      simp only [scopeM, ht, hne, Bool.true_and, if_true]
      cases (funcsM m).any (fun x => k == x) <;> rfl
theorem cloneT_eq (σ : Store) (l : List (List UInt8)) (a : AV) (ha : RS RT 1 σ l a) (hn : l.length ≤ 1048576) : ∃ a' σ', EE X f_slices_Clone_string [a] σ = some (a', σ') ∧ Pre σ σ' ∧ RSO (fun _ _ => RT) 1 σ.length σ'.length σ' l a' := by
  obtain ⟨els, s1, s2⟩ := ha
  have hln := s2.length
  rcases s1.cases with ⟨rfl, rfl⟩ | ⟨r, v, i, n, row, rfl, _⟩
  · have : l = [] := List.length_eq_zero_iff.1 (by simpa using hln)
    subst this
    refine ⟨.nilsl, σ, ?_, Fr.refl _ _, ⟨⟨[], SlAt.nil _ _, .nil⟩, KA.nil _ _⟩⟩
    have hn : isnilV .s false .nilsl = some (.bool true) := rfl
    rw [EE, Ex_run C_slices_Clone_string rfl]
    simp (config := {contextual := true, implicitDefEqProofs := false, maxSteps := 1000000}) only [
    ↓PR0, ↓PR1, ↓PR2, PO0, PO1, PO2, PO3, idxV_str, result, resOf, allSome, number, upd, List.map, Option.bind_some, Nat.reduceAdd, Nat.reduceSub, Nat.reduceLeDiff, Nat.reduceLT, Nat.reduceEqDiff, Nat.zero_add, Nat.add_zero, Nat.le_refl, 
    reduceIte, ne_eq, not_false_eq_true, and_self, true_and, and_true, reduceCtorEq, cond_true, cond_false, c_slices_Clone_string, hn]
  · have w := OwR.new σ [] 1
    have q := Pre.app σ [(⟨[], 1, 0, .own⟩ : Row)]
    obtain ⟨a', σ', g1, g2, g3⟩ := w.app 16 els (by simp only [List.length_nil]; omega)
    have ee := fun bx => (s1.append [(⟨[], 1, 0, .own⟩ : Row)]).els bx
    have hn : isnilV .s false (.sl r v i n) = some (.bool false) := rfl
    simp only [List.length_nil] at g1
    refine ⟨a', σ', ?_, q.trans g3 (fun x h1 h2 => by omega), ⟨g2.rs (by rw [List.nil_append]; exact s2.imp (fun _ _ h => h)), g2.ka (Nat.le_refl _) g2.lt⟩⟩
    rw [EE, Ex_run C_slices_Clone_string rfl]
    simp (config := {contextual := true, implicitDefEqProofs := false, maxSteps := 1000000}) only [
    ↓PR0, ↓PR1, ↓PR2, PO0, PO1, PO2, PO3, idxV_str, result, resOf, allSome, number, upd, List.map, Option.bind_some, Nat.reduceAdd, Nat.reduceSub, Nat.reduceLeDiff, Nat.reduceLT, Nat.reduceEqDiff, Nat.zero_add, Nat.add_zero, Nat.le_refl, 
    reduceIte, ne_eq, not_false_eq_true, and_self, true_and, and_true, reduceCtorEq, cond_true, cond_false, c_slices_Clone_string, hn, List.replicate_zero, ee, g1]
theorem begins_eq {τ σ : Store} {m : TreeM} {a : AV} {r : Nat} (hT : RTree τ m [a, int m.root]) (hs : m.size ≤ 1048576) (hp : Pre τ σ) (hob : ObjAt σ r [a, int m.root]) {k : Nat} (hk : k < m.nodes.length) : ∃ o σ', EE X f_impl_Tree_begins [.ptr r 0 0 0, int k] σ = some (o, σ') ∧ Pre σ σ' ∧ RSO (fun _ _ => RT) 1 σ.length σ'.length σ' (beginsM m k) o := by
  have pl := fun bx o => hob.place bx o
  by_cases e : (k : Int) = m.root
  · have he : ((k : Int) == m.root) = true := by simp [e]
    have hb : beginsM m k = [pathT] := by simp [beginsM, e]
    rw [hb]
    refine ⟨_, _, ?_, Pre.app _ _, ⟨lits σ [pathT] (fun t ht => by rw [List.mem_singleton] at ht; subst ht; unfold LenOk; decide), ?_⟩⟩
    · rw [EE, Ex_run C_impl_Tree_begins rfl]
      simp (config := {contextual := true, implicitDefEqProofs := false, maxSteps := 1000000}) only [
    ↓PR0, ↓PR1, ↓PR2, PO0, PO1, PO2, PO3, idxV_str, result, resOf, allSome, number, upd, List.map, Option.bind_some, Nat.reduceAdd, Nat.reduceSub, Nat.reduceLeDiff, Nat.reduceLT, Nat.reduceEqDiff, Nat.zero_add, Nat.add_zero, Nat.le_refl, 
    reduceIte, ne_eq, not_false_eq_true, and_self, true_and, and_true, reduceCtorEq, cond_true, cond_false, c_impl_Tree_begins, pl, he, List.replicate_succ, List.replicate_zero, List.set_cons_zero]
      rfl
    · have := KA.mid σ [] ([pathT].map (fun t => [AV.str t])) 1 0 1
      exact this.wide (Nat.le_refl _) (by simp)
  · have he : ((k : Int) == m.root) = false := by simp [e]
    have hkn := List.getElem?_eq_getElem hk
    obtain ⟨an, ak, _, hna, _, hn⟩ := hT.node hkn
    obtain ⟨n1, n2, n3, n4⟩ := hn σ hp
    have hb : beginsM m k = m.nodes[k].names := by simp only [beginsM, if_neg e, namesAt, Int.toNat_natCast, hkn]
    have hsz := NodeM.size_le hkn hs
    obtain ⟨o, σ', g1, g2, g3⟩ := cloneT_eq (X := X) σ m.nodes[k].names an (hna.pre (RP.mono _ _) hp) (by simp only [NodeM.size] at hsz; omega)
    rw [hb]
    refine ⟨o, σ', ?_, g2, g3⟩
    rw [EE, Ex_run C_impl_Tree_begins rfl]
    simp (config := {contextual := true, implicitDefEqProofs := false, maxSteps := 1000000}) only [
    ↓PR0, ↓PR1, ↓PR2, PO0, PO1, PO2, PO3, idxV_str, result, resOf, allSome, number, upd, List.map, Option.bind_some, Nat.reduceAdd, Nat.reduceSub, Nat.reduceLeDiff, Nat.reduceLT, Nat.reduceEqDiff, Nat.zero_add, Nat.add_zero, Nat.le_refl, 
    reduceIte, ne_eq, not_false_eq_true, and_self, true_and, and_true, reduceCtorEq, cond_true, cond_false, c_impl_Tree_begins, pl, he, n1, n2, n3, n4, g1]
/-- What ScopeAt tells. -/
def ScopeR (m : TreeM) (k : Int) (l : List (List UInt8)) (c : Int) : Prop := m.size ≤ 1048576 ∧ c = scopeM m k ∧ ((c ≠ 0 ∧ l = []) ∨ (c = 0 ∧ l = beginsM m k))
theorem implScopeAt_eq (hX : RepX X) (σ : Store) (m : TreeM) (cs : List AV) (k : Int) (hk : I64 k) (l : List (List UInt8)) (c : Int) (hl : ScopeR m k l c) (h : RTree σ m cs) (hs : m.size ≤ 1048576) :
    ∃ a' σ', EE X f_impl_ScopeAt [.agg cs, int k] σ = some (.tup [a', int c], σ') ∧ Pre σ σ' ∧ RSO (fun _ _ => RT) 1 σ.length σ'.length σ' l a' := by
  have h0 := h
  obtain ⟨a, rfl, ha, hr, hln⟩ := h0
  have hc := ha.cellsOf
  have o1 := ObjAt.new σ [a, int m.root]
  have q1 := Pre.app σ [(⟨[[a, int m.root]], [a, int m.root].length, 0, .own⟩ : Row)]
  obtain ⟨σ2, g1, g2⟩ := askedScope_eq (X := X) hX _ m _ k (RTree.mono.pre h q1) hs
  have o2 := o1.pre g2
  obtain ⟨_, rfl, hl⟩ := hl
  have pl1 := fun bx o => o1.place bx o
  simp only [List.length_cons, List.length_nil, Nat.zero_add, Nat.reduceAdd] at g1 pl1
  rcases hl with ⟨h1, rfl⟩ | ⟨h1, rfl⟩
  · have hne : (scopeM m k != 0) = true := by simpa using h1
    refine ⟨.nilsl, σ2, ?_, q1.pre g2, ⟨⟨[], SlAt.nil _ _, .nil⟩, KA.nil _ _⟩⟩
    rw [EE, Ex_run C_impl_ScopeAt rfl]
    simp (config := {contextual := true, implicitDefEqProofs := false, maxSteps := 1000000}) only [
    ↓PR0, ↓PR1, ↓PR2, PO0, PO1, PO2, PO3, idxV_str, result, resOf, allSome, number, upd, List.map, Option.bind_some, Nat.reduceAdd, Nat.reduceSub, Nat.reduceLeDiff, Nat.reduceLT, Nat.reduceEqDiff, Nat.zero_add, Nat.add_zero, Nat.le_refl, 
    reduceIte, ne_eq, not_false_eq_true, and_self, true_and, and_true, reduceCtorEq, cond_true, cond_false, c_impl_ScopeAt, hc, pl1, g1, hne]
  · have hne : (scopeM m k != 0) = false := by simp [h1]
    obtain ⟨hR, _, hk0, hk1⟩ := scopeM_ok h1
    obtain ⟨kn, rfl⟩ := Int.eq_ofNat_of_zero_le hk0
    obtain ⟨o, σ3, f1, f2, f3⟩ := begins_eq (X := X) (τ := σ) h hs (q1.pre g2) o2 (k := kn) (by omega)
    have hpre2 := q1.pre g2
    refine ⟨o, σ3, ?_, hpre2.pre f2, f3.wide (fun _ _ _ _ _ _ _ _ _ h => h) hpre2.1 (Nat.le_refl _)⟩
    rw [EE, Ex_run C_impl_ScopeAt rfl]
    simp (config := {contextual := true, implicitDefEqProofs := false, maxSteps := 1000000}) only [
    ↓PR0, ↓PR1, ↓PR2, PO0, PO1, PO2, PO3, idxV_str, result, resOf, allSome, number, upd, List.map, Option.bind_some, Nat.reduceAdd, Nat.reduceSub, Nat.reduceLeDiff, Nat.reduceLT, Nat.reduceEqDiff, Nat.zero_add, Nat.add_zero, Nat.le_refl, 
    reduceIte, ne_eq, not_false_eq_true, and_self, true_and, and_true, reduceCtorEq, cond_true, cond_false, c_impl_ScopeAt, hc, pl1, g1, hne, f1]
    rw [h1]

/-! ### The reference -/

def s00 : ScM := ⟨[], 0, 0, 0, 0⟩
def bringL (k : Int) : List (List UInt8) → ScM → ScM
  | [], s => s
  | t :: l, s => bringL k l (s.bring t k)
def startM (m : TreeM) (k : Int) : ScM := bringL k (beginsM m k) s00
theorem bring_names (s : ScM) (t : List UInt8) (n : Int) : (s.bring t n).names = s.names ++ [t] ∧ (s.bring t n).start = s.start := by
  unfold ScM.bring
  simp only
  split
  · constructor
    · rw [(ScM.fail_names _ _ _).1]
    · rw [(ScM.fail_names _ _ _).2.1]; simp only; split
      · exact (ScM.fail_names _ _ _).2.1
      · rfl
  · constructor
    · rfl
    · simp only; split
      · exact (ScM.fail_names _ _ _).2.1
      · rfl
theorem bringL_names (k : Int) : ∀ (l : List (List UInt8)) (s : ScM), (bringL k l s).names = s.names ++ l ∧ (bringL k l s).start = s.start
  | [], s => by simp [bringL]
  | t :: l, s => by
    have h1 := bringL_names k l (s.bring t k)
    have h2 := bring_names s t k
    simp only [bringL]
    rw [h1.1, h1.2, h2.1, h2.2]
    simp
theorem l04Start_loop {R : Type} {τ : Store} {m : TreeM} {a : AV} {r : Nat} (hT : RTree τ m [a, int m.root]) (hs : m.size ≤ 1048576) {k : Nat} {nd : NodeM} (hk : m.nodes[k]? = some nd) : ∀ d i (s : ScM) (σ : Store), i + d = nd.names.length → s.names.length = i → Sco τ m a r s σ → ∃ σ', Fr (fun x => x = r) σ σ' ∧ Sco τ m a r (bringL k (nd.names.drop i) s) σ' ∧ ∀ kk : Out → S → Option R,
    loopK (EE X) [1, 2, 5, 6] l_spec_l04Start_0 ([(1, .v (int k)), (2, .lp 2 0), (5, .v (.ptr r 0 0 0)), (6, .v (int i))], ⟨[(2, [a, int m.root])], σ⟩) kk = kk (.exit 0) ([(1, .v (int k)), (2, .lp 2 0), (5, .v (.ptr r 0 0 0)), (6, .v (int nd.names.length)), (26, .v (.bool false))], ⟨[(2, [a, int m.root])], σ'⟩) := by
  obtain ⟨an, ak, hrn, hna, _, hn⟩ := hT.node hk
  have hsz := NodeM.size_le hk hs
  have hnl : nd.names.length ≤ 1048576 := by simp only [NodeM.size] at hsz; omega
  intro d
  induction d with
  | zero =>
    intro i s σ hi hsn hc
    have e : i = nd.names.length := by omega
    have hp : Pre τ σ := by obtain ⟨_, _, _, h, _⟩ := hc; exact h
    obtain ⟨n1, n2, n3, n4⟩ := hn σ hp
    have nl := hna.len
    rw [e]
    refine ⟨σ, Fr.refl _ _, by rw [List.drop_length]; exact hc, fun kk => ?_⟩
    rw [loopK_step l_spec_l04Start_0.eq_1]
    simp (config := {contextual := true, implicitDefEqProofs := false, maxSteps := 1000000}) only [
    ↓PR0, ↓PR1, ↓PR2, PO0, PO1, PO2, PO3, idxV_str, result, resOf, allSome, number, upd, List.map, Option.bind_some, Nat.reduceAdd, Nat.reduceSub, Nat.reduceLeDiff, Nat.reduceLT, Nat.reduceEqDiff, Nat.zero_add, Nat.add_zero, Nat.le_refl, 
    reduceIte, ne_eq, not_false_eq_true, and_self, true_and, and_true, reduceCtorEq, cond_true, cond_false, n1, n2, n3, n4, nl, Int.lt_irrefl, decide_false]
  | succ d ih =>
    intro i s σ hi hsn hc
    have hp : Pre τ σ := by obtain ⟨_, _, _, h, _⟩ := hc; exact h
    obtain ⟨n1, n2, n3, n4⟩ := hn σ hp
    have nl := hna.len
    have hlt : i < nd.names.length := by omega
    have hlt' : (i : Int) < (nd.names.length : Int) := by omega
    have hwi : IntKind.i64.wrap ((i : Int) + 1) = ((i + 1 : Nat) : Int) := wrap64 (by omega) (by omega)
    obtain ⟨c1, ⟨hp', hlk⟩, ha1, ha2, _⟩ := (hna.pre (RP.mono _ _) hp).get (List.getElem?_eq_getElem hlt)
    subst hp'
    obtain ⟨σ1, g1, g2, g3⟩ := bring_eq (X := X) hc nd.names[i] hlk k (by omega)
    obtain ⟨σ', f1, f2, f3⟩ := ih (i + 1) (s.bring nd.names[i] k) σ1 (by omega) (by rw [(bring_names s _ _).1]; simp; omega) g3
    refine ⟨σ', g2.step f1, by rw [List.drop_eq_getElem_cons hlt]; exact f2, fun kk => ?_⟩
    rw [← f3 kk, loopK_step l_spec_l04Start_0.eq_1]
    simp (config := {contextual := true, implicitDefEqProofs := false, maxSteps := 1000000}) only [
    ↓PR0, ↓PR1, ↓PR2, PO0, PO1, PO2, PO3, idxV_str, result, resOf, allSome, number, upd, List.map, Option.bind_some, Nat.reduceAdd, Nat.reduceSub, Nat.reduceLeDiff, Nat.reduceLT, Nat.reduceEqDiff, Nat.zero_add, Nat.add_zero, Nat.le_refl, 
    reduceIte, ne_eq, not_false_eq_true, and_self, true_and, and_true, reduceCtorEq, cond_true, cond_false, n1, n2, n3, n4, nl, hlt', decide_true, ha1, ha2, g1, hwi]
theorem l04Start_eq (σ : Store) (m : TreeM) (a : AV) (k : Nat) (hk : k < m.nodes.length) (h : RTree σ m [a, int m.root]) (hs : m.size ≤ 1048576) : ∃ r σ', EE X f_spec_l04Start [.agg [a, int m.root], int k] σ = some (.ptr r 0 0 0, σ') ∧ Pre σ σ' ∧ Sco σ m a r (startM m k) σ' := by
  have hc := h.len.2
  have q1 := Pre.app σ [(⟨[], 1, 0, .own⟩ : Row)]
  have o2 := ObjAt.new (σ ++ [(⟨[], 1, 0, .own⟩ : Row)]) [a, int m.root, .sl σ.length 0 0 0, int 0, int 0, int 0, int 0]
  have q2 := Pre.app (σ ++ [(⟨[], 1, 0, .own⟩ : Row)]) [(⟨[[a, int m.root, .sl σ.length 0 0 0, int 0, int 0, int 0, int 0]], [a, int m.root, .sl σ.length 0 0 0, int 0, int 0, int 0, int 0].length, 0, .own⟩ : Row)]
  have w := (OwR.new σ [] 1).pre q2
  have sc0 : Sco σ m a (σ ++ [(⟨[], 1, 0, .own⟩ : Row)]).length s00 _ := ⟨.sl σ.length 0 0 0, o2, (by
    have : RSO (fun _ _ => RT) 1 σ.length (σ.length + 1) ((σ ++ [(⟨[], 1, 0, .own⟩ : Row)]) ++ [(⟨[[a, int m.root, .sl σ.length 0 0 0, int 0, int 0, int 0, int 0]], [a, int m.root, .sl σ.length 0 0 0, int 0, int 0, int 0, int 0].length, 0, .own⟩ : Row)]) ([] : List (List UInt8)) (.sl σ.length 0 0 0) := ⟨w.rs .nil, w.ka (Nat.le_refl _) (Nat.lt_succ_self _)⟩
    exact this.dep1.wide (fun x _ hx => by simp; omega)), q1.pre q2, by simp, by simp [s00], by simp [s00]⟩
  have pl := fun bx o => o2.place bx o
  by_cases e : (k : Int) = m.root
  · have he : ((k : Int) == m.root) = true := by simp [e]
    obtain ⟨σ', g1, g2, g3⟩ := bring_eq (X := X) sc0 pathT (by unfold LenOk; decide) k (by simp [s00])
    simp only [List.length_cons, List.length_nil, Nat.zero_add, Nat.reduceAdd, pathT] at g1
    refine ⟨(σ ++ [(⟨[], 1, 0, .own⟩ : Row)]).length, σ', ?_, (q1.pre q2).trans g2 (fun x h1 h2 => by rw [h2] at h1; simp at h1; omega), ?_⟩
    · rw [EE, Ex_run C_spec_l04Start rfl]
      simp (config := {contextual := true, implicitDefEqProofs := false, maxSteps := 1000000}) only [
    ↓PR0, ↓PR1, ↓PR2, PO0, PO1, PO2, PO3, idxV_str, result, resOf, allSome, number, upd, List.map, Option.bind_some, Nat.reduceAdd, Nat.reduceSub, Nat.reduceLeDiff, Nat.reduceLT, Nat.reduceEqDiff, Nat.zero_add, Nat.add_zero, Nat.le_refl, 
    reduceIte, ne_eq, not_false_eq_true, and_self, true_and, and_true, reduceCtorEq, cond_true, cond_false, c_spec_l04Start, hc, he, List.replicate_zero, g1]
    · have : startM m k = s00.bring pathT k := by simp [startM, beginsM, e, bringL]
      rw [this]; exact g3
  · have he : ((k : Int) == m.root) = false := by simp [e]
    have hkn := List.getElem?_eq_getElem hk
    obtain ⟨σ', g1, g2, g3⟩ := l04Start_loop (X := X) (R := AV × Store) h hs hkn m.nodes[k].names.length 0 s00 _ (by omega) rfl sc0
    simp only [List.length_cons, List.length_nil, Nat.zero_add, Nat.reduceAdd, Int.cast_ofNat_Int] at g3
    refine ⟨(σ ++ [(⟨[], 1, 0, .own⟩ : Row)]).length, σ', ?_, (q1.pre q2).trans g1 (fun x h1 h2 => by rw [h2] at h1; simp at h1; omega), ?_⟩
    · rw [EE, Ex_run C_spec_l04Start rfl]
      simp (config := {contextual := true, implicitDefEqProofs := false, maxSteps := 1000000}) only [
    ↓PR0, ↓PR1, ↓PR2, PO0, PO1, PO2, PO3, idxV_str, result, resOf, allSome, number, upd, List.map, Option.bind_some, Nat.reduceAdd, Nat.reduceSub, Nat.reduceLeDiff, Nat.reduceLT, Nat.reduceEqDiff, Nat.zero_add, Nat.add_zero, Nat.le_refl, 
    reduceIte, ne_eq, not_false_eq_true, and_self, true_and, and_true, reduceCtorEq, cond_true, cond_false, c_spec_l04Start, hc, he, List.replicate_zero, g3]
    · have : startM m k = bringL k (m.nodes[k].names.drop 0) s00 := by simp only [startM, beginsM, if_neg e, namesAt, Int.toNat_natCast, hkn, List.drop_zero]
      rw [this]; exact g2
theorem specScopeAt_eq (σ : Store) (m : TreeM) (cs : List AV) (k : Int) (hk : I64 k) (l : List (List UInt8)) (c : Int) (hl : ScopeR m k l c) (h : RTree σ m cs) (hs : m.size ≤ 1048576) :
    ∃ a' σ', EE X f_spec_ScopeAt [.agg cs, int k] σ = some (.tup [a', int c], σ') ∧ Pre σ σ' ∧ RS RT 1 σ' l a' := by
  have h0 := h
  obtain ⟨σ2, g1, g2⟩ := specTreeOK_eq (X := X) σ m _ h hs
  obtain ⟨a, rfl, ha, hr, hln⟩ := h0
  have hc := ha.cellsOf
  have hlen := ha.len
  have hml : m.nodes.length ≤ 1048576 := by simp only [TreeM.size] at hs; omega
  have hwl : IntKind.i64.wrap ((m.nodes.length : Int) - 1) = (m.nodes.length : Int) - 1 := wrap64 (by omega) (by omega)
  have w1 := fun a b c => l01In_eq'' (X := X) a b c σ2
  obtain ⟨_, rfl, hl⟩ := hl
  have nilr : RS RT 1 (σ2 ++ [(⟨[], 1, 0, .own⟩ : Row)]) [] (.sl σ2.length 0 0 0) := ⟨[], by simpa using SlAt.new σ2 [] 1, .nil⟩
  cases ht : treeOK m with
  | false =>
    rw [ht] at g1
    have e : scopeM m k = 1 := by simp [scopeM, ht]
    rw [e] at hl ⊢
    have hl2 : l = [] := by rcases hl with ⟨_, h⟩ | ⟨h, _⟩; exact h; omega
    subst hl2
    refine ⟨_, _, ?_, g2.pre (Pre.app _ _), nilr⟩
    rw [EE, Ex_run C_spec_ScopeAt rfl]
    simp (config := {contextual := true, implicitDefEqProofs := false, maxSteps := 1000000}) only [
    ↓PR0, ↓PR1, ↓PR2, PO0, PO1, PO2, PO3, idxV_str, result, resOf, allSome, number, upd, List.map, Option.bind_some, Nat.reduceAdd, Nat.reduceSub, Nat.reduceLeDiff, Nat.reduceLT, Nat.reduceEqDiff, Nat.zero_add, Nat.add_zero, Nat.le_refl, 
    reduceIte, ne_eq, not_false_eq_true, and_self, true_and, and_true, reduceCtorEq, cond_true, cond_false, c_spec_ScopeAt, hc, g1, Bool.not_false, List.replicate_zero]
  | true =>
    rw [ht] at g1
    have hR := treeOK_right ht
    by_cases hin : 0 ≤ k ∧ k < m.nodes.length
    · have hd1 : (decide (0 ≤ k) && decide (k ≤ (m.nodes.length : Int) - 1)) = true := by
        rw [Bool.and_eq_true, decide_eq_true_eq, decide_eq_true_eq]; omega
      obtain ⟨kn, rfl⟩ := Int.eq_ofNat_of_zero_le hin.1
      have hkl : kn < m.nodes.length := by omega
      have hkn := List.getElem?_eq_getElem hkl
      obtain ⟨an, ak, _, _, _, hn⟩ := h.node hkn
      obtain ⟨n1, n2, n3, n4⟩ := hn σ2 g2
      cases hbad : ((kn : Int) != m.root && (m.nodes[kn].kind != 20)) with
      | true =>
        simp only [Bool.and_eq_true] at hbad
        have e : scopeM m kn = 13 := by
          simp only [scopeM, ht, if_true, hbad.1, Bool.true_and]
          rw [if_pos]
          simp only [Bool.not_eq_true', List.any_eq_false, beq_iff_eq]
          intro x hx e
          subst e
          have := funcsM_kind hx
          simp only [kindM, Int.toNat_natCast, hkn] at this
          rw [this] at hbad; simp at hbad
        rw [e] at hl ⊢
        have hl2 : l = [] := by rcases hl with ⟨_, h⟩ | ⟨h, _⟩; exact h; omega
        subst hl2
        refine ⟨_, _, ?_, g2.pre (Pre.app _ _), nilr⟩
        rw [EE, Ex_run C_spec_ScopeAt rfl]
        simp (config := {contextual := true, implicitDefEqProofs := false, maxSteps := 1000000}) only [
    ↓PR0, ↓PR1, ↓PR2, PO0, PO1, PO2, PO3, idxV_str, result, resOf, allSome, number, upd, List.map, Option.bind_some, Nat.reduceAdd, Nat.reduceSub, Nat.reduceLeDiff, Nat.reduceLT, Nat.reduceEqDiff, Nat.zero_add, Nat.add_zero, Nat.le_refl, 
    reduceIte, ne_eq, not_false_eq_true, and_self, true_and, and_true, reduceCtorEq, cond_true, cond_false, c_spec_ScopeAt, hc, g1, Bool.not_true, hlen, hwl, w1, hd1, hbad.1, n1, n2, n3, n4, hbad.2, List.replicate_zero]
      | false =>
        have e : scopeM m kn = 0 := by
          simp only [scopeM, ht, if_true]
          rw [if_neg]
          simp only [Bool.and_eq_true, not_and, Bool.not_eq_true']
          intro h1
          rw [h1, Bool.true_and] at hbad
          have hk20 : m.nodes[kn].kind = 20 := by simpa using hbad
          have := hR.func (k := kn) (by omega) (by rw [Int.toNat_natCast]; exact hkn) hk20
          simp only [Bool.not_eq_false, List.any_eq_true, beq_iff_eq]
          exact ⟨_, this, rfl⟩
        rw [e] at hl ⊢
        have hl2 : l = beginsM m kn := by rcases hl with ⟨h, _⟩ | ⟨_, h⟩; omega; exact h
        subst hl2
        have q3 := Pre.app σ2 [(⟨[], 1, 0, .own⟩ : Row)]
        have w3 := OwR.new σ2 [] 1
        obtain ⟨r, σ4, f1, f2, f3⟩ := l04Start_eq (X := X) (σ2 ++ [(⟨[], 1, 0, .own⟩ : Row)]) m a kn hkl (RTree.mono.pre h (g2.pre q3)) hs
        obtain ⟨an', ob, hd, _, _, _, _⟩ := f3
        have hnm : (startM m kn).names = beginsM m kn := by simp [startM, (bringL_names _ _ _).1, s00]
        rw [hnm] at hd
        obtain ⟨els, s1, s2⟩ := hd.self
        have ee := fun bx => s1.els bx
        have hbl := (namesAt_len (k := kn) hs).1
        obtain ⟨a5, σ5, p1, p2, p3⟩ := (w3.pre f2).app 16 els (by rw [← s2.length]; simp only [List.length_nil]; omega)
        have pl := fun bx o => ob.place bx o
        simp only [ScM.cells] at pl
        simp only [List.length_nil] at p1
        refine ⟨a5, σ5, ?_, (g2.pre (q3.pre f2)).trans p3 (fun x h1 h2 => by have := g2.1; omega), p2.rs (by rw [List.nil_append]; exact s2.imp (fun _ _ h => h))⟩
        rw [EE, Ex_run C_spec_ScopeAt rfl]
        cases hr1 : ((kn : Int) != m.root) with
        | false => simp (config := {contextual := true, implicitDefEqProofs := false, maxSteps := 1000000}) only [
    ↓PR0, ↓PR1, ↓PR2, PO0, PO1, PO2, PO3, idxV_str, result, resOf, allSome, number, upd, List.map, Option.bind_some, Nat.reduceAdd, Nat.reduceSub, Nat.reduceLeDiff, Nat.reduceLT, Nat.reduceEqDiff, Nat.zero_add, Nat.add_zero, Nat.le_refl, 
    reduceIte, ne_eq, not_false_eq_true, and_self, true_and, and_true, reduceCtorEq, cond_true, cond_false, c_spec_ScopeAt, hc, g1, Bool.not_true, hlen, hwl, w1, hd1, hr1, List.replicate_zero, f1, pl, ee, p1]
        | true =>
          rw [hr1, Bool.true_and] at hbad
          simp (config := {contextual := true, implicitDefEqProofs := false, maxSteps := 1000000}) only [
    ↓PR0, ↓PR1, ↓PR2, PO0, PO1, PO2, PO3, idxV_str, result, resOf, allSome, number, upd, List.map, Option.bind_some, Nat.reduceAdd, Nat.reduceSub, Nat.reduceLeDiff, Nat.reduceLT, Nat.reduceEqDiff, Nat.zero_add, Nat.add_zero, Nat.le_refl, 
    reduceIte, ne_eq, not_false_eq_true, and_self, true_and, and_true, reduceCtorEq, cond_true, cond_false, c_spec_ScopeAt, hc, g1, Bool.not_true, hlen, hwl, w1, hd1, hr1, n1, n2, n3, n4, hbad, List.replicate_zero, f1, pl, ee, p1]
    · have hd1 : (decide (0 ≤ k) && decide (k ≤ (m.nodes.length : Int) - 1)) = false := by
        rw [Bool.and_eq_false_iff, decide_eq_false_iff_not, decide_eq_false_iff_not]; omega
      have e : scopeM m k = 13 := by
        by_cases h0 : scopeM m k = 0
        · obtain ⟨_, _, h2, h3⟩ := scopeM_ok h0; exact (hin ⟨h2, h3⟩).elim
        · simp only [scopeM, ht, if_true] at h0 ⊢
          split at h0
          · rename_i h9; rw [if_pos h9]
          · omega
      rw [e] at hl ⊢
      have hl2 : l = [] := by rcases hl with ⟨_, h⟩ | ⟨h, _⟩; exact h; omega
      subst hl2
      refine ⟨_, _, ?_, g2.pre (Pre.app _ _), nilr⟩
      rw [EE, Ex_run C_spec_ScopeAt rfl]
      simp (config := {contextual := true, implicitDefEqProofs := false, maxSteps := 1000000}) only [
    ↓PR0, ↓PR1, ↓PR2, PO0, PO1, PO2, PO3, idxV_str, result, resOf, allSome, number, upd, List.map, Option.bind_some, Nat.reduceAdd, Nat.reduceSub, Nat.reduceLeDiff, Nat.reduceLT, Nat.reduceEqDiff, Nat.zero_add, Nat.add_zero, Nat.le_refl, 
    reduceIte, ne_eq, not_false_eq_true, and_self, true_and, and_true, reduceCtorEq, cond_true, cond_false, c_spec_ScopeAt, hc, g1, Bool.not_true, hlen, hwl, w1, hd1, Bool.not_false, List.replicate_zero]
end Go.X
