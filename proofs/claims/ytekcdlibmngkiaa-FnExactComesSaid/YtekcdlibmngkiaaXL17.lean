/- Trees: names of functions; calls, of both. -/
import Derived.Test.YtekcdlibmngkiaaXL15
set_option linter.unusedVariables false
set_option linter.unusedSimpArgs false
set_option maxRecDepth 20000
namespace Go.X
open Go
variable {X : Call}

theorem contT_eq (σ : Store) (l : List (List UInt8)) (a : AV) (t : List UInt8) (ha : RS RT 1 σ l a) (hn : l.length ≤ 1000000000000) : EE X f_slices_Contains_string [a, .str t] σ = some (.bool (l.any (fun x => t == x)), σ) :=
  containsE (C := CC) (X := X) C_slices_Contains_string C_slices_Index_string (cmp_eql (fun a b => by rw [binV_seql])) σ l a t ha hn
theorem indexT_eq (σ : Store) (l : List (List UInt8)) (a : AV) (t : List UInt8) (ha : RS RT 1 σ l a) (hn : l.length ≤ 1000000000000) : EE X f_slices_Index_string [a, .str t] σ = some (int (fstI (fun x => t == x) l), σ) :=
  indexE (C := CC) (X := X) C_slices_Index_string (cmp_eql (fun a b => by rw [binV_seql])) σ l a t ha hn
theorem funcsM_len {m : TreeM} (hR : RightT m) (hs : m.size ≤ 1048576) : (funcsM m).length ≤ 1048576 ∧ (namesM m).length ≤ 1048576 := by
  obtain ⟨c, nd, h1, h2, h3, h4⟩ := kidsM_root hR
  have := NodeM.size_le h2 hs
  simp only [NodeM.size] at this
  have : (funcsM m).length ≤ nd.kids.length := by simp only [funcsM, h3]; exact List.length_filter_le _ _
  simp only [namesM, List.length_map]
  omega
theorem textM_at {m : TreeM} {c : Nat} {nd : NodeM} (h : m.nodes[c]? = some nd) : textM m c = nd.text ∧ kindM m c = nd.kind := by
  simp only [textM, kindM, Int.toNat_natCast, h, and_self]
theorem RTree.text {τ : Store} {m : TreeM} {a : AV} (hT : RTree τ m [a, int m.root]) {k : Nat} {nd : NodeM} (hk : m.nodes[k]? = some nd) : LenOk nd.text.length := by
  obtain ⟨an, ak, ⟨_, _, _, _, _, h⟩, _⟩ := hT.node hk
  exact h.2.2.1
theorem funcNames_loop {R : Type} {τ : Store} {m : TreeM} {a : AV} {r q : Nat} (hT : RTree τ m [a, int m.root]) (hR : RightT m) (hrq : r ≠ q) (hq : τ.length ≤ q) (l : List Int) (hl : ∀ k ∈ l, k ∈ funcsM m) (hn : l.length ≤ 1048576) (fa : AV) : ∀ d i (σ : Store) (out : List (List UInt8)) (o : AV), i + d = l.length → out.length ≤ i → Pre τ σ → ObjAt σ r [a, int m.root] → OwR q σ 1 (cT out) o → Dep (fun x => x ≠ q) σ (fun st => RS RI 1 st l fa) → ∃ o' σ', OwR q σ' 1 (cT (out ++ (l.drop i).map (textM m))) o' ∧ Fr (fun x => x = q) σ σ' ∧ ∀ kk : Out → S → Option R,
    loopK (EE X) [0, 3, 8, 9, 10] l_impl_Tree_funcNames_0 ([(0, .v (.ptr r 0 0 0)), (3, .v o), (8, .v fa), (9, .v (int l.length)), (10, .v (int i))], ⟨[], σ⟩) kk =
      kk (.exit 0) ([(0, .v (.ptr r 0 0 0)), (3, .v o'), (8, .v fa), (9, .v (int l.length)), (10, .v (int l.length)), (11, .v (.bool false))], ⟨[], σ'⟩) := by
  intro d
  induction d with
  | zero =>
    intro i σ out o hi ho hp hob hw hfa
    have e : i = l.length := by omega
    subst e
    refine ⟨o, σ, by simpa using hw, Fr.refl _ _, fun kk => ?_⟩
    rw [loopK_step l_impl_Tree_funcNames_0.eq_1]
    simp (config := {contextual := true, implicitDefEqProofs := false, maxSteps := 1000000}) only [
    ↓PR0, ↓PR1, ↓PR2, PO0, PO1, PO2, PO3, idxV_str, result, resOf, allSome, number, upd, List.map, Option.bind_some, Nat.reduceAdd, Nat.reduceSub, Nat.reduceLeDiff, Nat.reduceLT, Nat.reduceEqDiff, Nat.zero_add, Nat.add_zero, Nat.le_refl, 
    reduceIte, ne_eq, not_false_eq_true, and_self, true_and, and_true, reduceCtorEq, cond_true, cond_false, Int.lt_irrefl, decide_false]
  | succ d ih =>
    intro i σ out o hi ho hp hob hw hfa
    have hlt : i < l.length := by omega
    have hlt' : (i : Int) < (l.length : Int) := by omega
    have hwi : IntKind.i64.wrap ((i : Int) + 1) = ((i + 1 : Nat) : Int) := wrap64 (by omega) (by omega)
    obtain ⟨c1, ⟨hp', _⟩, ha1, ha2, _⟩ := hfa.self.get (List.getElem?_eq_getElem hlt)
    subst hp'
    obtain ⟨h0, h1, _⟩ := hR.funcIn (hl _ (List.getElem_mem hlt))
    obtain ⟨c, hc⟩ := Int.eq_ofNat_of_zero_le h0
    have hcl : c < m.nodes.length := by omega
    have hcn := List.getElem?_eq_getElem hcl
    obtain ⟨an, ak', _, _, _, hn'⟩ := hT.node hcn
    obtain ⟨n1, n2, n3, n4⟩ := hn' σ hp
    have pl := fun bx o => hob.place bx o
    have htx := (textM_at hcn).1
    rw [← hc] at n1 htx
    obtain ⟨o1, σ1, g1, g2, g3⟩ := hw.app 16 [[.str (textM m l[i])]] (by simp only [List.length_map, List.length_cons, List.length_nil]; omega)
    rw [htx] at g1
    have hel : ∀ M, elsOf M 1 (.ls [[.str m.nodes[c].text]]) = some [[.str m.nodes[c].text]] := fun _ => rfl
    obtain ⟨o', σ', f1, f2, f3⟩ := ih (i + 1) σ1 (out ++ [textM m l[i]]) o1 (by omega) (by simp; omega) (hp.trans g3 (fun z h1 h2 => by omega)) (hob.fr g3 hrq) (by simpa [cT] using g2) (hfa.fr g3 (fun x _ h h' => h h'))
    refine ⟨o', σ', by rw [List.drop_eq_getElem_cons hlt, List.map_cons]; simpa using f1, g3.step f2, fun kk => ?_⟩
    rw [← f3 kk, loopK_step l_impl_Tree_funcNames_0.eq_1]
    simp (config := {contextual := true, implicitDefEqProofs := false, maxSteps := 1000000}) only [
    ↓PR0, ↓PR1, ↓PR2, PO0, PO1, PO2, PO3, idxV_str, result, resOf, allSome, number, upd, List.map, Option.bind_some, Nat.reduceAdd, Nat.reduceSub, Nat.reduceLeDiff, Nat.reduceLT, Nat.reduceEqDiff, Nat.zero_add, Nat.add_zero, Nat.le_refl, 
    reduceIte, ne_eq, not_false_eq_true, and_self, true_and, and_true, reduceCtorEq, cond_true, cond_false, hlt', decide_true, ha1, ha2, pl, n1, n2, n3, n4, hel, List.replicate_succ, List.replicate_zero, List.set_cons_zero, g1, hwi]
theorem funcNames_eq {τ σ : Store} {m : TreeM} {a : AV} {r : Nat} (hT : RTree τ m [a, int m.root]) (hR : RightT m) (hs : m.size ≤ 1048576) (hp : Pre τ σ) (hob : ObjAt σ r [a, int m.root]) : ∃ o σ', EE X f_impl_Tree_funcNames [.ptr r 0 0 0] σ = some (o, σ') ∧ Pre σ σ' ∧ RSO (fun _ _ => RT) 1 σ.length σ'.length σ' (namesM m) o := by
  have q1 := Pre.app σ [(⟨[], 1, 0, .own⟩ : Row)]
  have hp1 := hp.pre q1
  have ob1 := hob.pre q1
  have w := OwR.new σ [] 1
  obtain ⟨fa, σ2, g1, g2, g3⟩ := functions_eq (X := X) hT hR hs hp1 ob1
  have hfl := g3.1.len
  obtain ⟨o', σ', f1, f2, f3⟩ := funcNames_loop (X := X) (R := AV × Store) (q := σ.length) hT hR (by have := hob.lt; omega) hp.1 (funcsM m) (fun k h => h) (funcsM_len hR hs).1 fa (funcsM m).length 0 σ2 [] _ (by omega) (by simp) (hp1.pre g2) (ob1.pre g2) (by simpa using w.pre g2) (g3.dep1.wide (fun x _ hx => by simp at hx; omega))
  simp only [Int.cast_ofNat_Int, List.drop_zero, List.nil_append, List.length_nil] at f1 f3
  have hpre := q1.pre g2
  refine ⟨o', σ', ?_, hpre.trans f2 (fun x h1 h2 => by omega), ⟨f1.rs (All2.map (fun t ht => ⟨rfl, ?_⟩)), f1.ka (Nat.le_refl _) f1.lt⟩⟩
  · rw [EE, Ex_run C_impl_Tree_funcNames rfl]
    simp (config := {contextual := true, implicitDefEqProofs := false, maxSteps := 1000000}) only [
    ↓PR0, ↓PR1, ↓PR2, PO0, PO1, PO2, PO3, idxV_str, result, resOf, allSome, number, upd, List.map, Option.bind_some, Nat.reduceAdd, Nat.reduceSub, Nat.reduceLeDiff, Nat.reduceLT, Nat.reduceEqDiff, Nat.zero_add, Nat.add_zero, Nat.le_refl, 
    reduceIte, ne_eq, not_false_eq_true, and_self, true_and, and_true, reduceCtorEq, cond_true, cond_false, c_impl_Tree_funcNames, List.replicate_zero, g1, hfl, f3]
  · simp only [namesM, List.mem_map] at ht
    obtain ⟨k, hk, rfl⟩ := ht
    obtain ⟨h0, h1, _⟩ := hR.funcIn hk
    obtain ⟨c, rfl⟩ := Int.eq_ofNat_of_zero_le h0
    have hcl : c < m.nodes.length := by omega
    rw [(textM_at (List.getElem?_eq_getElem hcl)).1]
    exact hT.text (List.getElem?_eq_getElem hcl)

/-! ### The function of a name -/

def funcOfL (m : TreeM) (t : List UInt8) : List Int → Int
  | [] => -1
  | k :: l => if (kindM m k == 20 && textM m k == t) = true then k else funcOfL m t l
def funcOf (m : TreeM) (t : List UInt8) : Int := funcOfL m t (kidsM m m.root)
theorem l04Func_loop {R : Type} {τ σ : Store} {m : TreeM} {a : AV} (hT : RTree τ m [a, int m.root]) (hR : RightT m) (hs : m.size ≤ 1048576) (hp : Pre τ σ) (t : List UInt8) {rc : Nat} {rnd : NodeM} (hr2 : m.nodes[rc]? = some rnd) {ak : AV} (hak : RS RI 1 τ rnd.kids ak) (kk : Out → S → Option R) : ∀ d i, i + d = rnd.kids.length →
    loopK (EE X) [1, 2, 5, 6] l_spec_l04Func_0 ([(1, .v (.str t)), (2, .lp 2 0), (5, .v ak), (6, .v (int i))], ⟨[(2, [a, int m.root])], σ⟩) kk =
      if (rnd.kids.drop i).any (fun k => kindM m k == 20 && textM m k == t) = true then kk .ret ([(4, .v (int (funcOfL m t (rnd.kids.drop i))))], ⟨[], σ⟩) else kk (.exit 0) ([(1, .v (.str t)), (2, .lp 2 0), (5, .v ak), (6, .v (int rnd.kids.length)), (17, .v (.bool false))], ⟨[(2, [a, int m.root])], σ⟩) := by
  have hkl : rnd.kids.length ≤ 1048576 := by have := NodeM.size_le hr2 hs; simp only [NodeM.size] at this; omega
  have hak' := hak.pre (RP.mono _ _) hp
  have klen := hak'.len
  intro d
  induction d with
  | zero =>
    intro i hi
    have e : i = rnd.kids.length := by omega
    subst e
    rw [loopK_step l_spec_l04Func_0.eq_1, List.drop_length, List.any_nil, if_neg (by decide)]
    simp (config := {contextual := true, implicitDefEqProofs := false, maxSteps := 1000000}) only [
    ↓PR0, ↓PR1, ↓PR2, PO0, PO1, PO2, PO3, idxV_str, result, resOf, allSome, number, upd, List.map, Option.bind_some, Nat.reduceAdd, Nat.reduceSub, Nat.reduceLeDiff, Nat.reduceLT, Nat.reduceEqDiff, Nat.zero_add, Nat.add_zero, Nat.le_refl, 
    reduceIte, ne_eq, not_false_eq_true, and_self, true_and, and_true, reduceCtorEq, cond_true, cond_false, klen, Int.lt_irrefl, decide_false]
  | succ d ih =>
    intro i hi
    have hlt : i < rnd.kids.length := by omega
    have hlt' : (i : Int) < (rnd.kids.length : Int) := by omega
    have hwi : IntKind.i64.wrap ((i : Int) + 1) = ((i + 1 : Nat) : Int) := wrap64 (by omega) (by omega)
    obtain ⟨c1, ⟨hp', _⟩, ha1, ha2, _⟩ := hak'.get (List.getElem?_eq_getElem hlt)
    subst hp'
    obtain ⟨h0, h1, _⟩ := (hR.node rc rnd hr2).2.2.1 _ (List.getElem_mem hlt)
    obtain ⟨c, hc⟩ := Int.eq_ofNat_of_zero_le h0
    have hcl : c < m.nodes.length := by omega
    have hcn := List.getElem?_eq_getElem hcl
    obtain ⟨an, ak', _, _, _, hn⟩ := hT.node hcn
    obtain ⟨n1, n2, n3, n4⟩ := hn σ hp
    have htx := textM_at hcn
    rw [← hc] at n1 htx
    have ih' := ih (i + 1) (by omega)
    rw [loopK_step l_spec_l04Func_0.eq_1, List.drop_eq_getElem_cons hlt, List.any_cons, funcOfL, htx.1, htx.2]
    cases hk20 : m.nodes[c].kind == 20 with
    | false =>
      simp only [Bool.false_and, Bool.false_or, Bool.false_eq_true, if_false]
      simp (config := {contextual := true, implicitDefEqProofs := false, maxSteps := 1000000}) only [
    ↓PR0, ↓PR1, ↓PR2, PO0, PO1, PO2, PO3, idxV_str, result, resOf, allSome, number, upd, List.map, Option.bind_some, Nat.reduceAdd, Nat.reduceSub, Nat.reduceLeDiff, Nat.reduceLT, Nat.reduceEqDiff, Nat.zero_add, Nat.add_zero, Nat.le_refl, 
    reduceIte, ne_eq, not_false_eq_true, and_self, true_and, and_true, reduceCtorEq, cond_true, cond_false, klen, hlt', decide_true, ha1, ha2, n1, n2, n3, n4, hk20, hwi, ih']
    | true =>
      cases htt : m.nodes[c].text == t with
      | true =>
        simp only [Bool.true_and, Bool.true_or, if_true]
        simp (config := {contextual := true, implicitDefEqProofs := false, maxSteps := 1000000}) only [
    ↓PR0, ↓PR1, ↓PR2, PO0, PO1, PO2, PO3, idxV_str, result, resOf, allSome, number, upd, List.map, Option.bind_some, Nat.reduceAdd, Nat.reduceSub, Nat.reduceLeDiff, Nat.reduceLT, Nat.reduceEqDiff, Nat.zero_add, Nat.add_zero, Nat.le_refl, 
    reduceIte, ne_eq, not_false_eq_true, and_self, true_and, and_true, reduceCtorEq, cond_true, cond_false, klen, hlt', decide_true, ha1, ha2, n1, n2, n3, n4, hk20, htt]
      | false =>
        simp only [Bool.true_and, Bool.false_or, Bool.false_eq_true, if_false]
        simp (config := {contextual := true, implicitDefEqProofs := false, maxSteps := 1000000}) only [
    ↓PR0, ↓PR1, ↓PR2, PO0, PO1, PO2, PO3, idxV_str, result, resOf, allSome, number, upd, List.map, Option.bind_some, Nat.reduceAdd, Nat.reduceSub, Nat.reduceLeDiff, Nat.reduceLT, Nat.reduceEqDiff, Nat.zero_add, Nat.add_zero, Nat.le_refl, 
    reduceIte, ne_eq, not_false_eq_true, and_self, true_and, and_true, reduceCtorEq, cond_true, cond_false, klen, hlt', decide_true, ha1, ha2, n1, n2, n3, n4, hk20, htt, hwi, ih']
theorem funcOfL_none {m : TreeM} {t : List UInt8} : ∀ {l : List Int}, l.any (fun k => kindM m k == 20 && textM m k == t) = false → funcOfL m t l = -1
  | [], _ => rfl
  | k :: l, h => by
    rw [List.any_cons, Bool.or_eq_false_iff] at h
    rw [funcOfL, if_neg (by rw [h.1]; decide)]
    exact funcOfL_none h.2
theorem l04Func_eq {τ σ : Store} {m : TreeM} {a : AV} (hT : RTree τ m [a, int m.root]) (hR : RightT m) (hs : m.size ≤ 1048576) (hp : Pre τ σ) (t : List UInt8) : EE X f_spec_l04Func [.agg [a, int m.root], .str t] σ = some (int (funcOf m t), σ) := by
  obtain ⟨c, nd, h1, h2, h3, h4⟩ := kidsM_root hR
  obtain ⟨an, ak, hrn, _, hak, hn⟩ := hT.node h2
  obtain ⟨n1, n2, n3, n4⟩ := hn _ hp
  rw [← h1] at n1
  have hl := fun kk => l04Func_loop (X := X) (R := AV × Store) hT hR hs hp t h2 hak kk nd.kids.length 0 (by omega)
  simp only [Int.cast_ofNat_Int, List.drop_zero] at hl
  have hc := hT.len.2
  rw [funcOf, h3, EE, Ex_run C_spec_l04Func rfl]
  cases hb : nd.kids.any (fun k => kindM m k == 20 && textM m k == t) with
  | true =>
    simp only [hb, if_true] at hl
    simp (config := {contextual := true, implicitDefEqProofs := false, maxSteps := 1000000}) only [
    ↓PR0, ↓PR1, ↓PR2, PO0, PO1, PO2, PO3, idxV_str, result, resOf, allSome, number, upd, List.map, Option.bind_some, Nat.reduceAdd, Nat.reduceSub, Nat.reduceLeDiff, Nat.reduceLT, Nat.reduceEqDiff, Nat.zero_add, Nat.add_zero, Nat.le_refl, 
    reduceIte, ne_eq, not_false_eq_true, and_self, true_and, and_true, reduceCtorEq, cond_true, cond_false, c_spec_l04Func, hc, n1, n2, n3, n4, hl]
  | false =>
    simp only [hb, Bool.false_eq_true, if_false] at hl
    rw [funcOfL_none hb]
    simp (config := {contextual := true, implicitDefEqProofs := false, maxSteps := 1000000}) only [
    ↓PR0, ↓PR1, ↓PR2, PO0, PO1, PO2, PO3, idxV_str, result, resOf, allSome, number, upd, List.map, Option.bind_some, Nat.reduceAdd, Nat.reduceSub, Nat.reduceLeDiff, Nat.reduceLT, Nat.reduceEqDiff, Nat.zero_add, Nat.add_zero, Nat.le_refl, 
    reduceIte, ne_eq, not_false_eq_true, and_self, true_and, and_true, reduceCtorEq, cond_true, cond_false, c_spec_l04Func, hc, n1, n2, n3, n4, hl]
theorem funcOfL_spec {m : TreeM} {t : List UInt8} : ∀ (l : List Int), (∀ k ∈ l, 0 ≤ k) → (funcOfL m t l < 0 ↔ ((l.filter (fun k => kindM m k == 20)).map (textM m)).any (fun x => t == x) = false)
  | [], _ => by simp [funcOfL]
  | k :: l, h => by
    have ih := funcOfL_spec (m := m) (t := t) l (fun x hx => h x (List.mem_cons_of_mem _ hx))
    have hk := h k (by simp)
    rw [funcOfL, List.filter_cons]
    cases h1 : kindM m k == 20 with
    | false => simpa using ih
    | true =>
      simp only [Bool.true_and, if_true, List.map_cons, List.any_cons]
      have hbe : (t == textM m k) = (textM m k == t) := Bool.beq_comm
      cases h2 : textM m k == t with
      | true => rw [hbe, h2]; simp; omega
      | false => rw [hbe, h2]; simpa using ih
theorem funcOf_spec {m : TreeM} (hR : RightT m) (t : List UInt8) : decide (funcOf m t < 0) = !((namesM m).any (fun x => t == x)) := by
  obtain ⟨c, nd, h1, h2, h3, h4⟩ := kidsM_root hR
  have := funcOfL_spec (m := m) (t := t) nd.kids (fun k hk => ((hR.node c nd h2).2.2.1 k hk).1)
  simp only [funcOf, namesM, funcsM, h3]
  cases hb : ((nd.kids.filter (fun k => kindM m k == 20)).map (textM m)).any (fun x => t == x) with
  | true => rw [hb] at this; simp at this; simp; omega
  | false => rw [hb] at this; simp at this; simp; exact this

/-! ### Calls, by the program -/

theorem Gr.rsT {lo : Nat} {σ : Store} {l : List (List UInt8)} {a : AV} (h : Gr lo σ 1 (cT l) a) (hl : ∀ t ∈ l, LenOk t.length) : RS RT 1 σ l a := ⟨cT l, h.slAt.1, All2.map (fun t ht => ⟨rfl, hl t ht⟩)⟩
def CallsI (X : Call) (τ : Store) (m : TreeM) (a : AV) (r lo f : Nat) : Prop := ∀ (k : Nat) out o σ, DownT m f k → Pre τ σ → ObjAt σ r [a, int m.root] → lo ≤ σ.length → Gr lo σ 1 (cT out) o → okN (namesM m) out → (∀ t ∈ out, LenOk t.length) →
  ∃ o' σ', EE X f_impl_Tree_calls [.ptr r 0 0 0, int k, o] σ = some (o', σ') ∧ Gr lo σ' 1 (cT (callsM m f k out)) o' ∧ Fr (fun x => lo ≤ x) σ σ' ∧ (∀ t ∈ callsM m f k out, LenOk t.length)
theorem callsI_loop {R : Type} {τ : Store} {m : TreeM} {a : AV} {r lo f : Nat} (hT : RTree τ m [a, int m.root]) (hs : m.size ≤ 1048576) (hrl : r < lo) (htl : τ.length ≤ lo) (ih : CallsI X τ m a r lo f) {k : Nat} {nd : NodeM} (hk : m.nodes[k]? = some nd) (hd : ∀ c ∈ nd.kids, DownT m f c) {an ak : AV} (hak : RS RI 1 τ nd.kids ak) : ∀ d i out o σ, i + d = nd.kids.length → Pre τ σ → ObjAt σ r [a, int m.root] → lo ≤ σ.length → Gr lo σ 1 (cT out) o → okN (namesM m) out → (∀ t ∈ out, LenOk t.length) →
    ∃ o' σ', Gr lo σ' 1 (cT (callsL (callsM m f) m (nd.kids.drop i) out)) o' ∧ Fr (fun x => lo ≤ x) σ σ' ∧ (∀ t ∈ callsL (callsM m f) m (nd.kids.drop i) out, LenOk t.length) ∧ ∀ kk : Out → S → Option R,
    loopK (EE X) [0, 2, 7, 18, 19, 20] l_impl_Tree_calls_0 ([(0, .v (.ptr r 0 0 0)), (2, .v o), (7, .lp 7 0), (18, .v ak), (19, .v (int nd.kids.length)), (20, .v (int i))], ⟨[(7, nc nd an ak)], σ⟩) kk =
      kk (.exit 0) ([(0, .v (.ptr r 0 0 0)), (2, .v o'), (7, .lp 7 0), (18, .v ak), (19, .v (int nd.kids.length)), (20, .v (int nd.kids.length)), (21, .v (.bool false))], ⟨[(7, nc nd an ak)], σ'⟩) := by
  have hnl : nd.kids.length ≤ 1048576 := by have := NodeM.size_le hk hs; simp only [NodeM.size] at this; omega
  intro d
  induction d with
  | zero =>
    intro i out o σ hi hp hob hlo hg hok hlk
    have e : i = nd.kids.length := by omega
    subst e
    rw [List.drop_length]
    refine ⟨o, σ, hg, Fr.refl _ _, hlk, fun kk => ?_⟩
    rw [loopK_step l_impl_Tree_calls_0.eq_1]
    simp (config := {contextual := true, implicitDefEqProofs := false, maxSteps := 1000000}) only [
    ↓PR0, ↓PR1, ↓PR2, PO0, PO1, PO2, PO3, idxV_str, result, resOf, allSome, number, upd, List.map, Option.bind_some, Nat.reduceAdd, Nat.reduceSub, Nat.reduceLeDiff, Nat.reduceLT, Nat.reduceEqDiff, Nat.zero_add, Nat.add_zero, Nat.le_refl, 
    reduceIte, ne_eq, not_false_eq_true, and_self, true_and, and_true, reduceCtorEq, cond_true, cond_false, Int.lt_irrefl, decide_false]
  | succ d ihd =>
    intro i out o σ hi hp hob hlo hg hok hlk
    have hlt : i < nd.kids.length := by omega
    have hlt' : (i : Int) < (nd.kids.length : Int) := by omega
    have hwi : IntKind.i64.wrap ((i : Int) + 1) = ((i + 1 : Nat) : Int) := wrap64 (by omega) (by omega)
    obtain ⟨c1, ⟨hp', _⟩, ha1, ha2, _⟩ := (hak.pre (RP.mono _ _) hp).get (List.getElem?_eq_getElem hlt)
    subst hp'
    have hdc := hd _ (List.getElem_mem hlt)
    have h0 : 0 ≤ nd.kids[i] ∧ ∃ nc, m.nodes[nd.kids[i].toNat]? = some nc := by
      cases f with
      | zero => exact hdc.elim
      | succ f => exact ⟨hdc.1, let ⟨n, h, _⟩ := hdc.2; ⟨n, h⟩⟩
    obtain ⟨h0, cn, hcn⟩ := h0
    obtain ⟨c, hc⟩ := Int.eq_ofNat_of_zero_le h0
    rw [hc, Int.toNat_natCast] at hcn
    obtain ⟨an', ak', _, _, _, hn⟩ := hT.node hcn
    obtain ⟨n1, n2, n3, n4⟩ := hn σ hp
    have pl := fun bx o => hob.place bx o
    have hkm := (textM_at hcn).2
    rw [← hc] at n1 hkm
    rw [List.drop_eq_getElem_cons hlt, callsL, hkm]
    cases hb : cn.kind == 20 with
    | true =>
      have hb' : (cn.kind != 20) = false := by simp only [bne, hb, Bool.not_true]
      simp only [if_true]
      obtain ⟨o', σ', f1, f2, f3, f4⟩ := ihd (i + 1) out o σ (by omega) hp hob hlo hg hok hlk
      refine ⟨o', σ', f1, f2, f3, fun kk => ?_⟩
      rw [← f4 kk, loopK_step l_impl_Tree_calls_0.eq_1]
      simp (config := {contextual := true, implicitDefEqProofs := false, maxSteps := 1000000}) only [
    ↓PR0, ↓PR1, ↓PR2, PO0, PO1, PO2, PO3, idxV_str, result, resOf, allSome, number, upd, List.map, Option.bind_some, Nat.reduceAdd, Nat.reduceSub, Nat.reduceLeDiff, Nat.reduceLT, Nat.reduceEqDiff, Nat.zero_add, Nat.add_zero, Nat.le_refl, 
    reduceIte, ne_eq, not_false_eq_true, and_self, true_and, and_true, reduceCtorEq, cond_true, cond_false, hlt', decide_true, ha1, ha2, pl, n1, n2, n3, n4, hb', hwi]
    | false =>
      have hb' : (cn.kind != 20) = true := by simp only [bne, hb, Bool.not_false]
      simp only [Bool.false_eq_true, if_false]
      obtain ⟨o1, σ1, g1, g2, g3, g4⟩ := ih c out o σ (by rw [← hc]; exact hdc) hp hob hlo hg hok hlk
      rw [← hc] at g1 g2 g4
      obtain ⟨o', σ', f1, f2, f3, f4⟩ := ihd (i + 1) (callsM m f nd.kids[i] out) o1 σ1 (by omega) (hp.trans g3 (fun x h1 h2 => by omega)) (hob.fr g3 (by omega)) (Nat.le_trans hlo g3.1) g2 (callsM_ok _ _ _ hok) g4
      refine ⟨o', σ', f1, g3.step f2, f3, fun kk => ?_⟩
      rw [← f4 kk, loopK_step l_impl_Tree_calls_0.eq_1]
      simp (config := {contextual := true, implicitDefEqProofs := false, maxSteps := 1000000}) only [
    ↓PR0, ↓PR1, ↓PR2, PO0, PO1, PO2, PO3, idxV_str, result, resOf, allSome, number, upd, List.map, Option.bind_some, Nat.reduceAdd, Nat.reduceSub, Nat.reduceLeDiff, Nat.reduceLT, Nat.reduceEqDiff, Nat.zero_add, Nat.add_zero, Nat.le_refl, 
    reduceIte, ne_eq, not_false_eq_true, and_self, true_and, and_true, reduceCtorEq, cond_true, cond_false, hlt', decide_true, ha1, ha2, pl, n1, n2, n3, n4, hb', g1, hwi]
theorem callsI_all {τ : Store} {m : TreeM} {a : AV} {r lo : Nat} (hT : RTree τ m [a, int m.root]) (hR : RightT m) (hs : m.size ≤ 1048576) (hrl : r < lo) (htl : τ.length ≤ lo) : ∀ f, CallsI X τ m a r lo f := by
  intro f
  induction f with
  | zero => intro k out o σ h; exact h.elim
  | succ f ih =>
    intro k out o σ hd hp hob hlo hg hok hlk
    obtain ⟨h0, nd, hk, hd⟩ := hd
    rw [Int.toNat_natCast] at hk
    obtain ⟨an, ak, hrn, _, hak, hn⟩ := hT.node hk
    obtain ⟨n1, n2, n3, n4⟩ := hn σ hp
    have pl := fun bx o => hob.place bx o
    have hcl : (nc nd an ak).length = 5 := rfl
    have hkl := hak.len
    have hkc := hak.cellsOf
    have htx := hT.text hk
    obtain ⟨o1, σ1, g1, g2, g3, g4⟩ := callsI_loop (X := X) (R := AV × Store) (an := an) hT hs hrl htl ih hk hd hak nd.kids.length 0 out o σ (by omega) hp hob hlo hg hok hlk
    simp only [List.drop_zero, Int.cast_ofNat_Int] at g1 g3 g4
    have hok1 : okN (namesM m) (callsL (callsM m f) m nd.kids out) := callsL_ok _ (callsM_ok f) _ _ hok
    have hnm := (funcsM_len hR hs).2
    have hol : (callsL (callsM m f) m nd.kids out).length ≤ 1048576 := by have := hok1; simp only [okN] at this; omega
    have hcm : callsM m (f + 1) k out = callM m nd (callsL (callsM m f) m nd.kids out) := by simp only [callsM, Int.toNat_natCast, hk]
    rw [hcm]
    have hob1 := hob.fr g2 (by omega)
    have hp1 := hp.trans g2 (fun x h1 h2 => by omega)
    have pl1 := fun bx o => hob1.place bx o
    cases h10 : nd.kind == 10 with
    | false =>
      have e : callM m nd (callsL (callsM m f) m nd.kids out) = callsL (callsM m f) m nd.kids out := by simp [callM, h10]
      rw [e]
      refine ⟨o1, σ1, ?_, g1, g2, g3⟩
      rw [EE, Ex_run C_impl_Tree_calls rfl]
      simp (config := {contextual := true, implicitDefEqProofs := false, maxSteps := 1000000}) only [
    ↓PR0, ↓PR1, ↓PR2, PO0, PO1, PO2, PO3, idxV_str, result, resOf, allSome, number, upd, List.map, Option.bind_some, Nat.reduceAdd, Nat.reduceSub, Nat.reduceLeDiff, Nat.reduceLT, Nat.reduceEqDiff, Nat.zero_add, Nat.add_zero, Nat.le_refl, 
    reduceIte, ne_eq, not_false_eq_true, and_self, true_and, and_true, reduceCtorEq, cond_true, cond_false, c_impl_Tree_calls, pl, n1, n2, n3, n4, ld_all hcl, hkl, g4, h10]
    | true =>
      obtain ⟨fa, σ2, f1, f2, f3⟩ := funcNames_eq (X := X) hT hR hs hp1 hob1
      have q1 := contT_eq (X := X) σ2 (namesM m) fa nd.text f3.1 (by omega)
      have g1' := g1.pre f2
      cases hnn : (namesM m).any (fun x => nd.text == x) with
      | false =>
        rw [hnn] at q1
        have e : callM m nd (callsL (callsM m f) m nd.kids out) = callsL (callsM m f) m nd.kids out := by simp only [callM, hnn, Bool.false_and, Bool.and_false, Bool.false_eq_true, if_false]
        rw [e]
        refine ⟨o1, σ2, ?_, g1', g2.pre f2, g3⟩
        rw [EE, Ex_run C_impl_Tree_calls rfl]
        simp (config := {contextual := true, implicitDefEqProofs := false, maxSteps := 1000000}) only [
    ↓PR0, ↓PR1, ↓PR2, PO0, PO1, PO2, PO3, idxV_str, result, resOf, allSome, number, upd, List.map, Option.bind_some, Nat.reduceAdd, Nat.reduceSub, Nat.reduceLeDiff, Nat.reduceLT, Nat.reduceEqDiff, Nat.zero_add, Nat.add_zero, Nat.le_refl, 
    reduceIte, ne_eq, not_false_eq_true, and_self, true_and, and_true, reduceCtorEq, cond_true, cond_false, c_impl_Tree_calls, pl, n1, n2, n3, n4, ld_all hcl, hkl, g4, h10, f1, q1]
      | true =>
        rw [hnn] at q1
        have q2 := contT_eq (X := X) σ2 _ o1 nd.text (g1'.rsT g3) (by omega)
        cases hoo : (callsL (callsM m f) m nd.kids out).any (fun x => nd.text == x) with
        | true =>
          rw [hoo] at q2
          have e : callM m nd (callsL (callsM m f) m nd.kids out) = callsL (callsM m f) m nd.kids out := by simp only [callM, hoo, Bool.not_true, Bool.and_false, Bool.false_eq_true, if_false]
          rw [e]
          refine ⟨o1, σ2, ?_, g1', g2.pre f2, g3⟩
          rw [EE, Ex_run C_impl_Tree_calls rfl]
          simp (config := {contextual := true, implicitDefEqProofs := false, maxSteps := 1000000}) only [
    ↓PR0, ↓PR1, ↓PR2, PO0, PO1, PO2, PO3, idxV_str, result, resOf, allSome, number, upd, List.map, Option.bind_some, Nat.reduceAdd, Nat.reduceSub, Nat.reduceLeDiff, Nat.reduceLT, Nat.reduceEqDiff, Nat.zero_add, Nat.add_zero, Nat.le_refl, 
    reduceIte, ne_eq, not_false_eq_true, and_self, true_and, and_true, reduceCtorEq, cond_true, cond_false, c_impl_Tree_calls, pl, n1, n2, n3, n4, ld_all hcl, hkl, g4, h10, f1, q1, q2, Bool.not_true]
        | false =>
          rw [hoo] at q2
          have e : callM m nd (callsL (callsM m f) m nd.kids out) = callsL (callsM m f) m nd.kids out ++ [nd.text] := by simp only [callM, h10, hnn, hoo, Bool.not_false, Bool.and_self, if_true]
          rw [e]
          obtain ⟨o3, σ3, p1, p2, p3, _⟩ := g1'.app (by have := f2.1; have := g2.1; omega) 16 [[.str nd.text]] (by simp only [List.length_map, List.length_cons, List.length_nil]; omega)
          have hel : ∀ M, elsOf M 1 (.ls [[.str nd.text]]) = some [[.str nd.text]] := fun _ => rfl
          refine ⟨o3, σ3, ?_, by simpa [cT] using p2, (g2.pre f2).step p3, fun t ht => by rcases List.mem_append.1 ht with ht | ht; exact g3 t ht; rw [List.mem_singleton] at ht; subst ht; exact htx⟩
          rw [EE, Ex_run C_impl_Tree_calls rfl]
          simp (config := {contextual := true, implicitDefEqProofs := false, maxSteps := 1000000}) only [
    ↓PR0, ↓PR1, ↓PR2, PO0, PO1, PO2, PO3, idxV_str, result, resOf, allSome, number, upd, List.map, Option.bind_some, Nat.reduceAdd, Nat.reduceSub, Nat.reduceLeDiff, Nat.reduceLT, Nat.reduceEqDiff, Nat.zero_add, Nat.add_zero, Nat.le_refl, 
    reduceIte, ne_eq, not_false_eq_true, and_self, true_and, and_true, reduceCtorEq, cond_true, cond_false, c_impl_Tree_calls, pl, n1, n2, n3, n4, ld_all hcl, hkl, g4, h10, f1, q1, q2, Bool.not_false, List.replicate_succ, 
    List.replicate_zero, List.set_cons_zero, hel, p1]
end Go.X
