/- Trees: the way to a node, of both. -/
import Derived.Test.YtekcdlibmngkiaaXL11
set_option linter.unusedVariables false
set_option linter.unusedSimpArgs false
set_option maxRecDepth 20000
namespace Go.X
open Go
variable {X : Call}

abbrev cI (l : List Int) : List (List AV) := l.map (fun x => [int x])
theorem OwR.getI {q : Nat} {σ : Store} {l : List Int} {a : AV} (h : OwR q σ 1 (cI l) a) {i : Nat} {x : Int} (hi : l[i]? = some x) : iadrV σ 1 a (int i) = some (elP a i) ∧ (∀ bx, place ⟨bx, σ⟩ (.v (elP a i)) = some ([int x], 0)) := by
  have hg : (cI l)[i]? = some [int x] := by rw [List.getElem?_map, hi]; rfl
  have hl := (List.getElem?_eq_some_iff.1 hg).1
  exact ⟨h.slAt.iadr .i64 hl, fun bx => h.slAt.place bx hg⟩
theorem OwR.putI {q : Nat} {σ : Store} {l : List Int} {a : AV} (h : OwR q σ 1 (cI l) a) {i : Nat} {x : Int} (hi : l[i]? = some x) (y : Int) :
    ∃ σ', (∀ bx, putAt ⟨bx, σ⟩ (.v (elP a i)) [int y] = some ⟨bx, σ'⟩) ∧ OwR q σ' 1 (cI (l.set i y)) a ∧ Fr (fun r => r = q) σ σ' ∧ σ'.length = σ.length := by
  have hg : (cI l)[i]? = some [int x] := by rw [List.getElem?_map, hi]; rfl
  obtain ⟨σ', h1, h2, h3, h4⟩ := h.put hg 0 [int y] (by simp)
  refine ⟨σ', fun bx => by rw [elP_Q]; exact h1 bx, ?_, h3, h4⟩
  have : upd [int x] 0 [int y] = [int y] := rfl
  rw [this] at h2
  simpa [cI, List.map_set] using h2
theorem reverse_loop {R : Type} (q n : Nat) (hn : n ≤ 1000000) : ∀ d i jz σ l a, n ≤ 2 * i + d → i ≤ n → jz = (n : Int) - 1 - (i : Int) → l.length = n → OwR q σ 1 (cI l) a → ∃ l' σ', l'.length = n ∧ (∀ p, l'[p]? = if i ≤ p ∧ p + i < n then l[n - 1 - p]? else l[p]?) ∧ OwR q σ' 1 (cI l') a ∧ Fr (fun r => r = q) σ σ' ∧ σ'.length = σ.length ∧ ∃ g, ∀ kk : Out → S → Option R,
    loopK (EE X) [0, 2, 3] l_slices_Reverse_int_0 ([(0, .v a), (2, .v (int i)), (3, .v (int jz))], ⟨[], σ⟩) kk = kk (.exit 0) (g, ⟨[], σ'⟩) := by
  have stop : ∀ i jz σ l a, n ≤ 2 * i + 1 → jz = (n : Int) - 1 - (i : Int) → l.length = n → OwR q σ 1 (cI l) a → ∃ l' σ', l'.length = n ∧ (∀ p, l'[p]? = if i ≤ p ∧ p + i < n then l[n - 1 - p]? else l[p]?) ∧ OwR q σ' 1 (cI l') a ∧ Fr (fun r => r = q) σ σ' ∧ σ'.length = σ.length ∧ ∃ g, ∀ kk : Out → S → Option R,
    loopK (EE X) [0, 2, 3] l_slices_Reverse_int_0 ([(0, .v a), (2, .v (int i)), (3, .v (int jz))], ⟨[], σ⟩) kk = kk (.exit 0) (g, ⟨[], σ'⟩) := by
    intro i jz σ l a h1 h2 h3 h4
    have hc : ¬ ((i : Int) < jz) := by omega
    refine ⟨l, σ, h3, fun p => ?_, h4, Fr.refl _ _, rfl, [(0, .v a), (2, .v (int i)), (3, .v (int jz)), (9, .v (.bool false))], fun kk => ?_⟩
    · split
      · have : n - 1 - p = p := by omega
        rw [this]
      · rfl
    · rw [loopK_step l_slices_Reverse_int_0.eq_1]
      simp (config := {contextual := true, implicitDefEqProofs := false, maxSteps := 1000000}) only [
    ↓PR0, ↓PR1, ↓PR2, PO0, PO1, PO2, PO3, idxV_str, result, resOf, allSome, number, upd, List.map, Option.bind_some, Nat.reduceAdd, Nat.reduceSub, Nat.reduceLeDiff, Nat.reduceLT, Nat.reduceEqDiff, Nat.zero_add, Nat.add_zero, Nat.le_refl, 
    reduceIte, ne_eq, not_false_eq_true, and_self, true_and, and_true, reduceCtorEq, cond_true, cond_false, hc, decide_false]
  intro d
  induction d with
  | zero => intro i jz σ l a h1 h2 h3 h4 h5; exact stop i jz σ l a (by omega) h3 h4 h5
  | succ d ih =>
    intro i jz σ l a h1 h2 h3 h4 h5
    by_cases hs : n ≤ 2 * i + 1
    · exact stop i jz σ l a hs h3 h4 h5
    · have ej : jz = ((n - 1 - i : Nat) : Int) := by omega
      rw [ej]
      have hj : n - 1 - i < l.length := by omega
      have hi : i < l.length := by omega
      have hc : (i : Int) < ((n - 1 - i : Nat) : Int) := by omega
      have w1 : IntKind.i64.wrap ((i : Int) + 1) = ((i + 1 : Nat) : Int) := wrap64 (by omega) (by omega)
      have w2 : IntKind.i64.wrap (((n - 1 - i : Nat) : Int) - 1) = (n : Int) - 1 - ((i + 1 : Nat) : Int) := by rw [wrap64 (by omega) (by omega)]; omega
      obtain ⟨i1, i2⟩ := h5.getI (List.getElem?_eq_getElem hi)
      obtain ⟨j1, j2⟩ := h5.getI (List.getElem?_eq_getElem hj)
      obtain ⟨σ1, p1, o1, f1, k1⟩ := h5.putI (List.getElem?_eq_getElem hi) l[n - 1 - i]
      have hg2 : (l.set i l[n - 1 - i])[n - 1 - i]? = some l[n - 1 - i] := by rw [List.getElem?_set_ne (by omega)]; exact List.getElem?_eq_getElem hj
      obtain ⟨j3, j4⟩ := o1.getI hg2
      obtain ⟨σ2, p2, o2, f2, k2⟩ := o1.putI hg2 l[i]
      obtain ⟨l', σ', r1, r2, r3, r4, r5, g, r6⟩ := ih (i + 1) ((n : Int) - 1 - ((i + 1 : Nat) : Int)) σ2 _ a (by omega) (by omega) rfl (by simpa using h4) o2
      refine ⟨l', σ', r1, fun p => ?_, r3, (f1.step f2).step r4, by omega, g, fun kk => ?_⟩
      · rw [r2 p]
        by_cases e1 : p = i
        · subst e1
          rw [if_neg (by omega), if_pos (by omega), List.getElem?_set_ne (by omega), List.getElem?_set_self hi, List.getElem?_eq_getElem hj]
        · by_cases e2 : p = n - 1 - i
          · subst e2
            have e3 : n - 1 - (n - 1 - i) = i := by omega
            rw [if_neg (by omega), if_pos (by omega), List.getElem?_set_self (by simpa using hj), e3, List.getElem?_eq_getElem hi]
          · by_cases e3 : i + 1 ≤ p ∧ p + (i + 1) < n
            · rw [if_pos e3, if_pos (by omega), List.getElem?_set_ne (by omega), List.getElem?_set_ne (by omega)]
            · rw [if_neg e3, if_neg (by omega), List.getElem?_set_ne (by omega), List.getElem?_set_ne (by omega)]
      · rw [← r6 kk, loopK_step l_slices_Reverse_int_0.eq_1]
        simp (config := {contextual := true, implicitDefEqProofs := false, maxSteps := 1000000}) only [
    ↓PR0, ↓PR1, ↓PR2, PO0, PO1, PO2, PO3, idxV_str, result, resOf, allSome, number, upd, List.map, Option.bind_some, Nat.reduceAdd, Nat.reduceSub, Nat.reduceLeDiff, Nat.reduceLT, Nat.reduceEqDiff, Nat.zero_add, Nat.add_zero, Nat.le_refl, 
    reduceIte, ne_eq, not_false_eq_true, and_self, true_and, and_true, reduceCtorEq, cond_true, cond_false, hc, decide_true, i1, i2, j1, j2, p1, j3, j4, p2, w1, w2]
theorem reverse_eq (q : Nat) (σ : Store) (l : List Int) (a : AV) (hl : l.length ≤ 1000000) (h : OwR q σ 1 (cI l) a) : ∃ σ', EE X f_slices_Reverse_int [a] σ = some (.tup [], σ') ∧ OwR q σ' 1 (cI l.reverse) a ∧ Fr (fun r => r = q) σ σ' := by
  obtain ⟨l', σ', r1, r2, r3, r4, r5, g, r6⟩ := reverse_loop (X := X) (R := AV × Store) q l.length hl l.length 0 _ σ l a (by omega) (by omega) rfl rfl h
  have e : l' = l.reverse := by
    apply List.ext_getElem?
    intro p
    rw [r2 p]
    by_cases hp : p < l.length
    · rw [if_pos (by omega), List.getElem?_reverse hp]
    · rw [if_neg (by omega), List.getElem?_eq_none (by omega), List.getElem?_eq_none (by simp; omega)]
  subst e
  have hlen : lenV false a = some (.int .i64 l.length) := by have := h.slAt.len; simpa using this
  have w1 : IntKind.i64.wrap ((l.length : Int) - 1) = (l.length : Int) - 1 := wrap64 (by omega) (by omega)
  simp only [Int.cast_ofNat_Int, Int.sub_zero] at r6
  refine ⟨σ', ?_, r3, r4⟩
  rw [EE, Ex_run C_slices_Reverse_int rfl]
  simp (config := {contextual := true, implicitDefEqProofs := false, maxSteps := 1000000}) only [
    ↓PR0, ↓PR1, ↓PR2, PO0, PO1, PO2, PO3, idxV_str, result, resOf, allSome, number, upd, List.map, Option.bind_some, Nat.reduceAdd, Nat.reduceSub, Nat.reduceLeDiff, Nat.reduceLT, Nat.reduceEqDiff, Nat.zero_add, Nat.add_zero, Nat.le_refl, 
    reduceIte, ne_eq, not_false_eq_true, and_self, true_and, and_true, reduceCtorEq, cond_true, cond_false, c_slices_Reverse_int, hlen, w1, r6]

/-! ### The way -/

/-- What PathTo tells. -/
def PathR (m : TreeM) (k : Int) (l : List Int) (c : Int) : Prop := c = placeM m k ∧ ((c ≠ 0 ∧ l = []) ∨ (c = 0 ∧ ∃ u, WayUp m k u ∧ u.length ≤ 200 ∧ l = u.reverse))
theorem pathR_all (m : TreeM) (k : Int) : ∃ l c, PathR m k l c := by
  by_cases h : placeM m k = 0
  · obtain ⟨h1, h2, h3⟩ := placeM_ok h
    obtain ⟨u, h4, h5⟩ := h1.way h2 h3
    exact ⟨u.reverse, 0, h.symm, .inr ⟨rfl, u, h4, h5, rfl⟩⟩
  · exact ⟨[], placeM m k, rfl, .inl ⟨h, rfl⟩⟩
theorem WayUp.cases' {m : TreeM} {k : Int} {u : List Int} (h : WayUp m k u) : (k = m.root ∧ u = [m.root]) ∨ (k ≠ m.root ∧ 0 ≤ k ∧ ∃ v, WayUp m (parM m k) v ∧ u = k :: v) := by
  cases h with
  | root => exact .inl ⟨rfl, rfl⟩
  | up h1 h2 h3 h4 => subst h3; exact .inr ⟨h1, h2, _, h4, rfl⟩
theorem WayUp.ok {m : TreeM} (hT : RightT m) (hb : I64 m.root) (hn : m.nodes.length ≤ 1048576) {k : Int} {u : List Int} (h : WayUp m k u) (hk : k < m.nodes.length) : ∀ x ∈ u, I64 x := by
  induction h with
  | root => intro x hx; rw [List.mem_singleton] at hx; subst hx; exact hb
  | up h1 h2 h3 h4 ih =>
    rename_i k p l
    have hp : parM m k < m.nodes.length := by rcases fstI_ge (hasKid k) m.nodes with h5 | h5 <;> rw [parM_fst] at h5 <;> omega
    intro x hx
    rcases List.mem_cons.1 hx with rfl | hx
    · unfold I64; omega
    · exact ih (by omega) x hx
theorem implPath_loop {R : Type} {τ : Store} {m : TreeM} {a : AV} {r q : Nat} (hT : RTree τ m [a, int m.root]) (hR : RightT m) (hs : m.size ≤ 1048576) (hrq : r ≠ q) (hq : τ.length ≤ q) : ∀ (u : List Int) (k : Int) (out : List Int) (o : AV) (σ : Store), WayUp m k u → out.length + u.length ≤ 1000 → Pre τ σ → ObjAt σ r [a, int m.root] → OwR q σ 1 (cI out) o → ∃ o' σ', Pre τ σ' ∧ OwR q σ' 1 (cI (out ++ u)) o' ∧ Fr (fun x => x = q) σ σ' ∧ ∀ kk : Out → S → Option R,
    loopK (EE X) [1, 2, 7] l_impl_PathTo_0 ([(1, .v (int k)), (2, .v (.ptr r 0 0 0)), (7, .v o)], ⟨[], σ⟩) kk = kk (.exit 0) ([(1, .v (int (-1))), (2, .v (.ptr r 0 0 0)), (7, .v o'), (16, .v (.bool false))], ⟨[], σ'⟩) := by
  intro u
  induction u with
  | nil => intro k out o σ h; have := (h.nonneg hR.root.1).2.1; simp at this
  | cons x v ih =>
    intro k out o σ h hlen hp ho hw
    have hk0 := (h.nonneg hR.root.1).1
    obtain ⟨o1, σ1, g1, g2, g3⟩ := hw.app 8 [[int k]] (by simp only [List.length_map, List.length_cons, List.length_nil]; simp only [List.length_cons] at hlen; omega)
    have hp1 : Pre τ σ1 := hp.trans g3 (fun z h1 h2 => by omega)
    have ho1 := ho.fr g3 hrq
    obtain ⟨σ2, p1, p2⟩ := parent_eq (X := X) σ1 m a r k (RTree.mono.pre hT hp1) hs ho1
    have hel : ∀ M, elsOf M 1 (.ls [[int k]]) = some [[int k]] := fun _ => rfl
    have hd : (0 : Int) ≤ k := hk0
    have fin2 : Fr (fun x => x = q) σ σ2 := g3.pre p2
    rcases h.cases' with ⟨rfl, e⟩ | ⟨h1, h2, v', h3, e⟩
    · cases e
      rw [hR.parRoot] at p1
      have hneg : ¬ ((0 : Int) ≤ -1) := by decide
      refine ⟨o1, σ2, hp1.pre p2, ?_, fin2, fun kk => ?_⟩
      · have := g2.pre p2; simpa [cI] using this
      · rw [loopK_step l_impl_PathTo_0.eq_1]
        simp (config := {contextual := true, implicitDefEqProofs := false, maxSteps := 1000000}) only [
    ↓PR0, ↓PR1, ↓PR2, PO0, PO1, PO2, PO3, idxV_str, result, resOf, allSome, number, upd, List.map, Option.bind_some, Nat.reduceAdd, Nat.reduceSub, Nat.reduceLeDiff, Nat.reduceLT, Nat.reduceEqDiff, Nat.zero_add, Nat.add_zero, Nat.le_refl, 
    reduceIte, ne_eq, not_false_eq_true, and_self, true_and, and_true, reduceCtorEq, cond_true, cond_false, hd, decide_true, hel, List.replicate_succ, List.replicate_zero, List.set_cons_zero, g1, p1]
        rw [loopK_step l_impl_PathTo_0.eq_1]
        simp (config := {contextual := true, implicitDefEqProofs := false, maxSteps := 1000000}) only [
    ↓PR0, ↓PR1, ↓PR2, PO0, PO1, PO2, PO3, idxV_str, result, resOf, allSome, number, upd, List.map, Option.bind_some, Nat.reduceAdd, Nat.reduceSub, Nat.reduceLeDiff, Nat.reduceLT, Nat.reduceEqDiff, Nat.zero_add, Nat.add_zero, Nat.le_refl, 
    reduceIte, ne_eq, not_false_eq_true, and_self, true_and, and_true, reduceCtorEq, cond_true, cond_false, hneg, decide_false]
    · cases e
      obtain ⟨o', σ', f1, f2, f3, f4⟩ := ih (parM m x) (out ++ [x]) o1 σ2 h3 (by simp only [List.length_append, List.length_cons, List.length_nil] at hlen ⊢; omega) (hp1.pre p2) (ho1.pre p2) (by have := g2.pre p2; simpa [cI] using this)
      refine ⟨o', σ', f1, by simpa using f2, fin2.step f3, fun kk => ?_⟩
      rw [← f4 kk, loopK_step l_impl_PathTo_0.eq_1]
      simp (config := {contextual := true, implicitDefEqProofs := false, maxSteps := 1000000}) only [
    ↓PR0, ↓PR1, ↓PR2, PO0, PO1, PO2, PO3, idxV_str, result, resOf, allSome, number, upd, List.map, Option.bind_some, Nat.reduceAdd, Nat.reduceSub, Nat.reduceLeDiff, Nat.reduceLT, Nat.reduceEqDiff, Nat.zero_add, Nat.add_zero, Nat.le_refl, 
    reduceIte, ne_eq, not_false_eq_true, and_self, true_and, and_true, reduceCtorEq, cond_true, cond_false, hd, decide_true, hel, List.replicate_succ, List.replicate_zero, List.set_cons_zero, g1, p1]
theorem implPathTo_eq (hX : RepX X) (σ : Store) (m : TreeM) (cs : List AV) (k : Int) (hk : I64 k) (l : List Int) (c : Int) (hl : PathR m k l c) (h : RTree σ m cs) (hs : m.size ≤ 1048576) :
    ∃ a' σ', EE X f_impl_PathTo [.agg cs, int k] σ = some (.tup [a', int c], σ') ∧ Pre σ σ' ∧ RSO (fun _ _ => RI) 1 σ.length σ'.length σ' l a' := by
  have h0 := h
  obtain ⟨a, rfl, ha, hr, hln⟩ := h0
  have hc := ha.cellsOf
  have o1 := ObjAt.new σ [a, int m.root]
  have q1 := Pre.app σ [(⟨[[a, int m.root]], [a, int m.root].length, 0, .own⟩ : Row)]
  obtain ⟨σ2, g1, g2⟩ := askedNode_eq (X := X) hX _ m _ k (RTree.mono.pre h q1) hs
  have o2 := o1.pre g2
  obtain ⟨rfl, hl⟩ := hl
  have pl := fun bx o => o2.place bx o
  have pl1 := fun bx o => o1.place bx o
  simp only [List.length_cons, List.length_nil, Nat.zero_add, Nat.reduceAdd] at g1 pl1
  rcases hl with ⟨h1, rfl⟩ | ⟨h1, u, hw, hu, rfl⟩
  · have hne : (placeM m k != 0) = true := by simpa using h1
    refine ⟨.nilsl, σ2, ?_, q1.pre g2, ⟨⟨[], SlAt.nil _ _, .nil⟩, KA.nil _ _⟩⟩
    rw [EE, Ex_run C_impl_PathTo rfl]
    simp (config := {contextual := true, implicitDefEqProofs := false, maxSteps := 1000000}) only [
    ↓PR0, ↓PR1, ↓PR2, PO0, PO1, PO2, PO3, idxV_str, result, resOf, allSome, number, upd, List.map, Option.bind_some, Nat.reduceAdd, Nat.reduceSub, Nat.reduceLeDiff, Nat.reduceLT, Nat.reduceEqDiff, Nat.zero_add, Nat.add_zero, Nat.le_refl, 
    reduceIte, ne_eq, not_false_eq_true, and_self, true_and, and_true, reduceCtorEq, cond_true, cond_false, c_impl_PathTo, hc, pl1, g1, hne]
  · have hne : (placeM m k != 0) = false := by simp [h1]
    obtain ⟨hR, hk0, hk1⟩ := placeM_ok h1
    have hpre2 := q1.pre g2
    have q3 := Pre.app σ2 [(⟨[], 1, 0, .own⟩ : Row)]
    have ow := OwR.new σ2 [] 1
    obtain ⟨o', σ4, f1, f2, f3, f4⟩ := implPath_loop (X := X) (R := AV × Store) (q := σ2.length) h hR hs (by have := o2.lt; omega) (hpre2.1) u k [] _ _ hw (by simp; omega) (hpre2.pre q3) (o2.pre q3) ow
    have hml : m.nodes.length ≤ 1048576 := by simp only [TreeM.size] at hs; omega
    obtain ⟨σ5, r1, r2, r3⟩ := reverse_eq (X := X) σ2.length σ4 u o' (by omega) (by simpa using f2)
    have r4 : Fr (fun x => x = σ2.length) (σ2 ++ [(⟨[], 1, 0, .own⟩ : Row)]) σ5 := f3.step r3
    simp only [List.length_nil] at f4
    refine ⟨o', σ5, ?_, hpre2.trans (q3.trans r4 (fun r h1 h2 => by omega)) (fun r h1 h2 => h2), ⟨r2.rs (All2.map (fun x hx => ⟨rfl, (hw.ok hR hr hml hk1) x (by simpa using hx)⟩)), r2.ka (by have := hpre2.1; omega) r2.lt⟩⟩
    rw [EE, Ex_run C_impl_PathTo rfl]
    simp (config := {contextual := true, implicitDefEqProofs := false, maxSteps := 1000000}) only [
    ↓PR0, ↓PR1, ↓PR2, PO0, PO1, PO2, PO3, idxV_str, result, resOf, allSome, number, upd, List.map, Option.bind_some, Nat.reduceAdd, Nat.reduceSub, Nat.reduceLeDiff, Nat.reduceLT, Nat.reduceEqDiff, Nat.zero_add, Nat.add_zero, Nat.le_refl, 
    reduceIte, ne_eq, not_false_eq_true, and_self, true_and, and_true, reduceCtorEq, cond_true, cond_false, c_impl_PathTo, hc, pl1, g1, hne, List.replicate_zero, f4, r1]
    rw [h1]
theorem specPath_loop {R : Type} {τ : Store} {m : TreeM} {a : AV} (hT : RTree τ m [a, int m.root]) (hR : RightT m) (hs : m.size ≤ 1048576) : ∀ (u : List Int) (k : Int) (out : List Int) (o : AV) (σ : Store), WayUp m k (k :: u) → out.length + u.length ≤ 1000 → Pre τ σ → RS RI 1 σ out o → (∀ x ∈ out, I64 x) → (∀ x ∈ u, I64 x) → ∃ o' σ' , Pre τ σ' ∧ RS RI 1 σ' (u.reverse ++ out) o' ∧ ∃ k', ∀ kk : Out → S → Option R,
    loopK (EE X) [1, 2, 7] l_spec_PathTo_0 ([(1, .v (int k)), (2, .lp 2 0), (7, .v o)], ⟨[(2, [a, int m.root])], σ⟩) kk = kk (.exit 0) ([(1, .v (int k')), (2, .lp 2 0), (7, .v o'), (20, .v (.bool false))], ⟨[(2, [a, int m.root])], σ'⟩) := by
  intro u
  induction u with
  | nil =>
    intro k out o σ h hlen hp ho hi1 hi2
    rcases h.cases' with ⟨rfl, e⟩ | ⟨h1, h2, v', h3, e⟩
    · refine ⟨o, σ, hp, by simpa using ho, m.root, fun kk => ?_⟩
      rw [loopK_step l_spec_PathTo_0.eq_1]
      simp (config := {contextual := true, implicitDefEqProofs := false, maxSteps := 1000000}) only [
    ↓PR0, ↓PR1, ↓PR2, PO0, PO1, PO2, PO3, idxV_str, result, resOf, allSome, number, upd, List.map, Option.bind_some, Nat.reduceAdd, Nat.reduceSub, Nat.reduceLeDiff, Nat.reduceLT, Nat.reduceEqDiff, Nat.zero_add, Nat.add_zero, Nat.le_refl, 
    reduceIte, ne_eq, not_false_eq_true, and_self, true_and, and_true, reduceCtorEq, cond_true, cond_false, bne_self_eq_false]
    · cases e; have := (h3.nonneg hR.root.1).2.1; simp at this
  | cons x v ih =>
    intro k out o σ h hlen hp ho hi1 hi2
    rcases h.cases' with ⟨rfl, e⟩ | ⟨h1, h2, v', h3, e⟩
    · cases e
    · cases e
      have hne : (k != m.root) = true := by simpa using h1
      have hx : parM m k = x := by
        rcases h3.cases' with ⟨e1, e2⟩ | ⟨_, _, _, _, e2⟩
        · cases e2; exact e1
        · cases e2; rfl
      have p1 := l03Parent_eq (X := X) hT hp hs k
      rw [hx] at p1 h3
      have ow := OwR.new σ [[int x]] 1
      have q1 := Pre.app σ [(⟨[[int x]], 1, 0, .own⟩ : Row)]
      obtain ⟨els, e1, e2⟩ := ho.pre (RP.mono _ _) q1
      obtain ⟨o1, σ1, g1, g2, g3⟩ := ow.app 8 els (by have := e2.length; simp only [List.length_cons, List.length_nil]; simp only [List.length_cons] at hlen; omega)
      have g3' : Pre σ σ1 := q1.trans g3 (fun r h1 h2 => by omega)
      have ee := fun bx => e1.els bx
      simp only [List.length_cons, List.length_nil, Nat.zero_add] at g1
      obtain ⟨o', σ', f1, f2, k', f4⟩ := ih x (x :: out) o1 σ1 h3 (by simp only [List.length_cons] at hlen ⊢; omega) (hp.pre g3') ⟨[int x] :: els, g2.slAt, All2.cons ⟨rfl, hi2 x (by simp)⟩ (e2.imp (fun _ _ h => h))⟩ (fun y hy => by rcases List.mem_cons.1 hy with rfl | hy; exact hi2 y (by simp); exact hi1 y hy) (fun y hy => hi2 y (by simp [hy]))
      refine ⟨o', σ', f1, by simpa using f2, k', fun kk => ?_⟩
      rw [← f4 kk, loopK_step l_spec_PathTo_0.eq_1]
      simp (config := {contextual := true, implicitDefEqProofs := false, maxSteps := 1000000}) only [
    ↓PR0, ↓PR1, ↓PR2, PO0, PO1, PO2, PO3, idxV_str, result, resOf, allSome, number, upd, List.map, Option.bind_some, Nat.reduceAdd, Nat.reduceSub, Nat.reduceLeDiff, Nat.reduceLT, Nat.reduceEqDiff, Nat.zero_add, Nat.add_zero, Nat.le_refl, 
    reduceIte, ne_eq, not_false_eq_true, and_self, true_and, and_true, reduceCtorEq, cond_true, cond_false, hne, p1, (hT.len).2, List.replicate_succ, List.replicate_zero, List.set_cons_zero, ee, g1]
theorem specPathTo_eq (σ : Store) (m : TreeM) (cs : List AV) (k : Int) (hk : I64 k) (l : List Int) (c : Int) (hl : PathR m k l c) (h : RTree σ m cs) (hs : m.size ≤ 1048576) :
    ∃ a' σ', EE X f_spec_PathTo [.agg cs, int k] σ = some (.tup [a', int c], σ') ∧ Pre σ σ' ∧ RS RI 1 σ' l a' := by
  have h0 := h
  obtain ⟨a, rfl, ha, hr, hln⟩ := h0
  have hc := ha.cellsOf
  obtain ⟨σ2, g1, g2⟩ := l03Place_eq (X := X) σ m _ k h hs
  obtain ⟨rfl, hl⟩ := hl
  rcases hl with ⟨h1, rfl⟩ | ⟨h1, u, hw, hu, rfl⟩
  · have hne : (placeM m k != 0) = true := by simpa using h1
    refine ⟨_, _, ?_, g2.pre (Pre.app _ _), ⟨[], by simpa using SlAt.new σ2 [] 1, .nil⟩⟩
    rw [EE, Ex_run C_spec_PathTo rfl]
    simp (config := {contextual := true, implicitDefEqProofs := false, maxSteps := 1000000}) only [
    ↓PR0, ↓PR1, ↓PR2, PO0, PO1, PO2, PO3, idxV_str, result, resOf, allSome, number, upd, List.map, Option.bind_some, Nat.reduceAdd, Nat.reduceSub, Nat.reduceLeDiff, Nat.reduceLT, Nat.reduceEqDiff, Nat.zero_add, Nat.add_zero, Nat.le_refl, 
    reduceIte, ne_eq, not_false_eq_true, and_self, true_and, and_true, reduceCtorEq, cond_true, cond_false, c_spec_PathTo, hc, g1, hne, List.replicate_zero]
  · have hne : (placeM m k != 0) = false := by simp [h1]
    obtain ⟨hR, hk0, hk1⟩ := placeM_ok h1
    have hml : m.nodes.length ≤ 1048576 := by simp only [TreeM.size] at hs; omega
    have hok := hw.ok hR hr hml hk1
    obtain ⟨v, rfl⟩ : ∃ v, u = k :: v := by
      rcases hw.cases' with ⟨e1, e2⟩ | ⟨_, _, v, _, e2⟩
      · exact ⟨[], by rw [e2, e1]⟩
      · exact ⟨v, e2⟩
    have q3 := Pre.app σ2 [(⟨[[int k]], 1, 0, .own⟩ : Row)]
    have l0 := litI σ2 [k] (by intro t ht; rw [List.mem_singleton] at ht; subst ht; exact hk) 1 rfl
    obtain ⟨o', σ4, f1, f2, k', f4⟩ := specPath_loop (X := X) (R := AV × Store) h hR hs v k [k] _ _ hw (by simp only [List.length_cons, List.length_nil] at hu ⊢; omega) (g2.pre q3) l0 (by intro t ht; rw [List.mem_singleton] at ht; subst ht; exact hk) (fun x hx => hok x (by simp [hx]))
    refine ⟨o', σ4, ?_, f1, by simpa using f2⟩
    rw [EE, Ex_run C_spec_PathTo rfl]
    simp (config := {contextual := true, implicitDefEqProofs := false, maxSteps := 1000000}) only [
    ↓PR0, ↓PR1, ↓PR2, PO0, PO1, PO2, PO3, idxV_str, result, resOf, allSome, number, upd, List.map, Option.bind_some, Nat.reduceAdd, Nat.reduceSub, Nat.reduceLeDiff, Nat.reduceLT, Nat.reduceEqDiff, Nat.zero_add, Nat.add_zero, Nat.le_refl, 
    reduceIte, ne_eq, not_false_eq_true, and_self, true_and, and_true, reduceCtorEq, cond_true, cond_false, c_spec_PathTo, hc, g1, hne, List.replicate_succ, List.replicate_zero, List.set_cons_zero, f4]
    rw [h1]
end Go.X
