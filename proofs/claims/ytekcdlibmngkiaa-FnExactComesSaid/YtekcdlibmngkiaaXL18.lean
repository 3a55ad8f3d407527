/- Trees: calls, by the reference; CallsOf of both. -/
import Derived.Test.YtekcdlibmngkiaaXL17
set_option linter.unusedVariables false
set_option linter.unusedSimpArgs false
set_option maxRecDepth 20000
namespace Go.X
open Go
variable {X : Call}

def CallsS (X : Call) (τ : Store) (m : TreeM) (a : AV) (lo f : Nat) : Prop := ∀ (k : Nat) out o σ, DownT m f k → Pre τ σ → lo ≤ σ.length → RSO (fun _ _ => RT) 1 lo σ.length σ out o → okN (namesM m) out →
  ∃ o' σ', EE X f_spec_l04Calls [.agg [a, int m.root], int k, o] σ = some (o', σ') ∧ RSO (fun _ _ => RT) 1 lo σ'.length σ' (callsM m f k out) o' ∧ Pre σ σ'
theorem callsS_loop {R : Type} {τ : Store} {m : TreeM} {a : AV} {lo f : Nat} (hT : RTree τ m [a, int m.root]) (hs : m.size ≤ 1048576) (ih : CallsS X τ m a lo f) {k : Nat} {nd : NodeM} (hk : m.nodes[k]? = some nd) (hd : ∀ c ∈ nd.kids, DownT m f c) {an ak : AV} (hak : RS RI 1 τ nd.kids ak) : ∀ d i out o σ, i + d = nd.kids.length → Pre τ σ → lo ≤ σ.length → RSO (fun _ _ => RT) 1 lo σ.length σ out o → okN (namesM m) out →
    ∃ o' σ', RSO (fun _ _ => RT) 1 lo σ'.length σ' (callsL (callsM m f) m (nd.kids.drop i) out) o' ∧ Pre σ σ' ∧ ∀ kk : Out → S → Option R,
    loopK (EE X) [2, 3, 7, 8] l_spec_l04Calls_1 ([(2, .v o), (3, .lp 3 0), (7, .lp 7 0), (8, .v (int i))], ⟨[(3, [a, int m.root]), (7, nc nd an ak)], σ⟩) kk =
      kk (.exit 0) ([(2, .v o'), (3, .lp 3 0), (7, .lp 7 0), (8, .v (int nd.kids.length)), (19, .v (.bool false))], ⟨[(3, [a, int m.root]), (7, nc nd an ak)], σ'⟩) := by
  have hnl : nd.kids.length ≤ 1048576 := by have := NodeM.size_le hk hs; simp only [NodeM.size] at this; omega
  have klen := hak.len
  have tc := hT.len.2
  intro d
  induction d with
  | zero =>
    intro i out o σ hi hp hlo ho hok
    have e : i = nd.kids.length := by omega
    subst e
    rw [List.drop_length]
    refine ⟨o, σ, ho, Fr.refl _ _, fun kk => ?_⟩
    rw [loopK_step l_spec_l04Calls_1.eq_1]
    simp (config := {contextual := true, implicitDefEqProofs := false, maxSteps := 1000000}) only [
    ↓PR0, ↓PR1, ↓PR2, PO0, PO1, PO2, PO3, idxV_str, result, resOf, allSome, number, upd, List.map, Option.bind_some, Nat.reduceAdd, Nat.reduceSub, Nat.reduceLeDiff, Nat.reduceLT, Nat.reduceEqDiff, Nat.zero_add, Nat.add_zero, Nat.le_refl, 
    reduceIte, ne_eq, not_false_eq_true, and_self, true_and, and_true, reduceCtorEq, cond_true, cond_false, klen, Int.lt_irrefl, decide_false]
  | succ d ihd =>
    intro i out o σ hi hp hlo ho hok
    have hlt : i < nd.kids.length := by omega
    have hlt' : (i : Int) < (nd.kids.length : Int) := by omega
    have hwi : IntKind.i64.wrap ((i : Int) + 1) = ((i + 1 : Nat) : Int) := wrap64 (by omega) (by omega)
    obtain ⟨c1, ⟨hp', _⟩, ha1, ha2, _⟩ := (hak.pre (RP.mono _ _) hp).get (List.getElem?_eq_getElem hlt)
    subst hp'
    have hdc := hd _ (List.getElem_mem hlt)
    have h0 : 0 ≤ nd.kids[i] ∧ ∃ nc, m.nodes[nd.kids[i].toNat]? = some nc := by
      cases f with
      | zero => exact hdc.elim
      | succ f => exact ⟨hdc.1, let ⟨n, h, _⟩ := hdc.2; ⟨n, h⟩⟩
    obtain ⟨h0, cn, hcn⟩ := h0
    obtain ⟨c, hc⟩ := Int.eq_ofNat_of_zero_le h0
    rw [hc, Int.toNat_natCast] at hcn
    obtain ⟨an', ak', _, _, _, hn⟩ := hT.node hcn
    obtain ⟨n1, n2, n3, n4⟩ := hn σ hp
    have hkm := (textM_at hcn).2
    rw [← hc] at n1 hkm
    rw [List.drop_eq_getElem_cons hlt, callsL, hkm]
    cases hb : cn.kind == 20 with
    | true =>
      have hb' : (cn.kind != 20) = false := by simp only [bne, hb, Bool.not_true]
      simp only [if_true]
      obtain ⟨o', σ', f1, f2, f4⟩ := ihd (i + 1) out o σ (by omega) hp hlo ho hok
      refine ⟨o', σ', f1, f2, fun kk => ?_⟩
      rw [← f4 kk, loopK_step l_spec_l04Calls_1.eq_1]
      simp (config := {contextual := true, implicitDefEqProofs := false, maxSteps := 1000000}) only [
    ↓PR0, ↓PR1, ↓PR2, PO0, PO1, PO2, PO3, idxV_str, result, resOf, allSome, number, upd, List.map, Option.bind_some, Nat.reduceAdd, Nat.reduceSub, Nat.reduceLeDiff, Nat.reduceLT, Nat.reduceEqDiff, Nat.zero_add, Nat.add_zero, Nat.le_refl, 
    reduceIte, ne_eq, not_false_eq_true, and_self, true_and, and_true, reduceCtorEq, cond_true, cond_false, klen, hlt', decide_true, ha1, ha2, n1, n2, n3, n4, hb', hwi]
    | false =>
      have hb' : (cn.kind != 20) = true := by simp only [bne, hb, Bool.not_false]
      simp only [Bool.false_eq_true, if_false]
      obtain ⟨o1, σ1, g1, g2, g3⟩ := ih c out o σ (by rw [← hc]; exact hdc) hp hlo ho hok
      rw [← hc] at g1 g2
      obtain ⟨o', σ', f1, f2, f4⟩ := ihd (i + 1) (callsM m f nd.kids[i] out) o1 σ1 (by omega) (hp.pre g3) (Nat.le_trans hlo g3.1) g2 (callsM_ok _ _ _ hok)
      refine ⟨o', σ', f1, g3.pre f2, fun kk => ?_⟩
      rw [← f4 kk, loopK_step l_spec_l04Calls_1.eq_1]
      simp (config := {contextual := true, implicitDefEqProofs := false, maxSteps := 1000000}) only [
    ↓PR0, ↓PR1, ↓PR2, PO0, PO1, PO2, PO3, idxV_str, result, resOf, allSome, number, upd, List.map, Option.bind_some, Nat.reduceAdd, Nat.reduceSub, Nat.reduceLeDiff, Nat.reduceLT, Nat.reduceEqDiff, Nat.zero_add, Nat.add_zero, Nat.le_refl, 
    reduceIte, ne_eq, not_false_eq_true, and_self, true_and, and_true, reduceCtorEq, cond_true, cond_false, klen, hlt', decide_true, ha1, ha2, n1, n2, n3, n4, hb', tc, g1, hwi]
theorem callsHas_loop {R : Type} (σ : Store) (out : List (List UInt8)) (o : AV) (ho : RS RT 1 σ out o) (hl : out.length ≤ 1048576) (nd : NodeM) (an ak : AV) (kk : Out → S → Option R) : ∀ d i, i + d = out.length →
    loopK (EE X) [2, 7, 9] l_spec_l04Calls_0 ([(2, .v o), (7, .lp 7 0), (9, .v (int i))], ⟨[(7, nc nd an ak)], σ⟩) kk =
      br ((out.drop i).any (fun x => nd.text == x)) (kk .ret ([(6, .v o)], ⟨[], σ⟩)) (kk (.exit 2) ([(2, .v o), (7, .lp 7 0), (9, .v (int out.length)), (55, .v (.bool false))], ⟨[(7, nc nd an ak)], σ⟩)) := by
  have olen := ho.len
  intro d
  induction d with
  | zero =>
    intro i hi
    have e : i = out.length := by omega
    subst e
    rw [loopK_step l_spec_l04Calls_0.eq_1, List.drop_length, List.any_nil]
    simp (config := {contextual := true, implicitDefEqProofs := false, maxSteps := 1000000}) only [
    ↓PR0, ↓PR1, ↓PR2, PO0, PO1, PO2, PO3, idxV_str, result, resOf, allSome, number, upd, List.map, Option.bind_some, Nat.reduceAdd, Nat.reduceSub, Nat.reduceLeDiff, Nat.reduceLT, Nat.reduceEqDiff, Nat.zero_add, Nat.add_zero, Nat.le_refl, 
    reduceIte, ne_eq, not_false_eq_true, and_self, true_and, and_true, reduceCtorEq, cond_true, cond_false, olen, Int.lt_irrefl, decide_false]
  | succ d ih =>
    intro i hi
    have hlt : i < out.length := by omega
    have hlt' : (i : Int) < (out.length : Int) := by omega
    have hwi : IntKind.i64.wrap ((i : Int) + 1) = ((i + 1 : Nat) : Int) := wrap64 (by omega) (by omega)
    obtain ⟨c1, ⟨hp', _⟩, ha1, ha2, _⟩ := ho.get (List.getElem?_eq_getElem hlt)
    subst hp'
    have hbe : (out[i] == nd.text) = (nd.text == out[i]) := Bool.beq_comm
    have ih' := ih (i + 1) (by omega)
    rw [loopK_step l_spec_l04Calls_0.eq_1, List.drop_eq_getElem_cons hlt, List.any_cons]
    cases hb : nd.text == out[i] with
    | true => simp (config := {contextual := true, implicitDefEqProofs := false, maxSteps := 1000000}) only [
    ↓PR0, ↓PR1, ↓PR2, PO0, PO1, PO2, PO3, idxV_str, result, resOf, allSome, number, upd, List.map, Option.bind_some, Nat.reduceAdd, Nat.reduceSub, Nat.reduceLeDiff, Nat.reduceLT, Nat.reduceEqDiff, Nat.zero_add, Nat.add_zero, Nat.le_refl, 
    reduceIte, ne_eq, not_false_eq_true, and_self, true_and, and_true, reduceCtorEq, cond_true, cond_false, olen, hlt', decide_true, ha1, ha2, hbe, hb, Bool.true_or]
    | false => simp (config := {contextual := true, implicitDefEqProofs := false, maxSteps := 1000000}) only [
    ↓PR0, ↓PR1, ↓PR2, PO0, PO1, PO2, PO3, idxV_str, result, resOf, allSome, number, upd, List.map, Option.bind_some, Nat.reduceAdd, Nat.reduceSub, Nat.reduceLeDiff, Nat.reduceLT, Nat.reduceEqDiff, Nat.zero_add, Nat.add_zero, Nat.le_refl, 
    reduceIte, ne_eq, not_false_eq_true, and_self, true_and, and_true, reduceCtorEq, cond_true, cond_false, olen, hlt', decide_true, ha1, ha2, hbe, hb, Bool.false_or, hwi, ih']
theorem callsS_all {τ : Store} {m : TreeM} {a : AV} {lo : Nat} (hT : RTree τ m [a, int m.root]) (hR : RightT m) (hs : m.size ≤ 1048576) : ∀ f, CallsS X τ m a lo f := by
  intro f
  induction f with
  | zero => intro k out o σ h; exact h.elim
  | succ f ih =>
    intro k out o σ hd hp hlo ho hok
    obtain ⟨h0, nd, hk, hd⟩ := hd
    rw [Int.toNat_natCast] at hk
    obtain ⟨an, ak, hrn, _, hak, hn⟩ := hT.node hk
    obtain ⟨n1, n2, n3, n4⟩ := hn σ hp
    have hcl : (nc nd an ak).length = 5 := rfl
    have tc := hT.len.2
    have htx := hT.text hk
    obtain ⟨o1, σ1, g1, g2, g4⟩ := callsS_loop (X := X) (R := AV × Store) (an := an) hT hs ih hk hd hak nd.kids.length 0 out o σ (by omega) hp hlo ho hok
    simp only [List.drop_zero, Int.cast_ofNat_Int] at g1 g4
    have hok1 : okN (namesM m) (callsL (callsM m f) m nd.kids out) := callsL_ok _ (callsM_ok f) _ _ hok
    have hnm := (funcsM_len hR hs).2
    have hol : (callsL (callsM m f) m nd.kids out).length ≤ 1048576 := by have := hok1; simp only [okN] at this; omega
    have hcm : callsM m (f + 1) k out = callM m nd (callsL (callsM m f) m nd.kids out) := by simp only [callsM, Int.toNat_natCast, hk]
    rw [hcm]
    have lf := l04Func_eq (X := X) hT hR hs (hp.pre g2) nd.text
    have lfs := funcOf_spec hR nd.text
    cases h10 : nd.kind == 10 with
    | false =>
      have h10' : (nd.kind != 10) = true := by simp only [bne, h10, Bool.not_false]
      have e : callM m nd (callsL (callsM m f) m nd.kids out) = callsL (callsM m f) m nd.kids out := by simp [callM, h10]
      rw [e]
      refine ⟨o1, σ1, ?_, g1, g2⟩
      rw [EE, Ex_run C_spec_l04Calls rfl]
      simp (config := {contextual := true, implicitDefEqProofs := false, maxSteps := 1000000}) only [
    ↓PR0, ↓PR1, ↓PR2, PO0, PO1, PO2, PO3, idxV_str, result, resOf, allSome, number, upd, List.map, Option.bind_some, Nat.reduceAdd, Nat.reduceSub, Nat.reduceLeDiff, Nat.reduceLT, Nat.reduceEqDiff, Nat.zero_add, Nat.add_zero, Nat.le_refl, 
    reduceIte, ne_eq, not_false_eq_true, and_self, true_and, and_true, reduceCtorEq, cond_true, cond_false, c_spec_l04Calls, tc, n1, n2, n3, n4, ld_all hcl, g4, h10']
    | true =>
      have h10' : (nd.kind != 10) = false := by simp only [bne, h10, Bool.not_true]
      cases hnn : (namesM m).any (fun x => nd.text == x) with
      | false =>
        rw [hnn] at lfs
        have e : callM m nd (callsL (callsM m f) m nd.kids out) = callsL (callsM m f) m nd.kids out := by simp only [callM, hnn, Bool.false_and, Bool.and_false, Bool.false_eq_true, if_false]
        rw [e]
        refine ⟨o1, σ1, ?_, g1, g2⟩
        rw [EE, Ex_run C_spec_l04Calls rfl]
        simp (config := {contextual := true, implicitDefEqProofs := false, maxSteps := 1000000}) only [
    ↓PR0, ↓PR1, ↓PR2, PO0, PO1, PO2, PO3, idxV_str, result, resOf, allSome, number, upd, List.map, Option.bind_some, Nat.reduceAdd, Nat.reduceSub, Nat.reduceLeDiff, Nat.reduceLT, Nat.reduceEqDiff, Nat.zero_add, Nat.add_zero, Nat.le_refl, 
    reduceIte, ne_eq, not_false_eq_true, and_self, true_and, and_true, reduceCtorEq, cond_true, cond_false, c_spec_l04Calls, tc, n1, n2, n3, n4, ld_all hcl, g4, h10', lf, lfs, Bool.not_false]
      | true =>
        rw [hnn] at lfs
        have has := fun kk => callsHas_loop (X := X) (R := AV × Store) σ1 _ o1 g1.1 hol nd an ak kk _ 0 (Nat.zero_add _)
        simp only [List.drop_zero, Int.cast_ofNat_Int] at has
        cases hoo : (callsL (callsM m f) m nd.kids out).any (fun x => nd.text == x) with
        | true =>
          simp only [hoo, br_true] at has
          have e : callM m nd (callsL (callsM m f) m nd.kids out) = callsL (callsM m f) m nd.kids out := by simp only [callM, hoo, Bool.not_true, Bool.and_false, Bool.false_eq_true, if_false]
          rw [e]
          refine ⟨o1, σ1, ?_, g1, g2⟩
          rw [EE, Ex_run C_spec_l04Calls rfl]
          simp (config := {contextual := true, implicitDefEqProofs := false, maxSteps := 1000000}) only [
    ↓PR0, ↓PR1, ↓PR2, PO0, PO1, PO2, PO3, idxV_str, result, resOf, allSome, number, upd, List.map, Option.bind_some, Nat.reduceAdd, Nat.reduceSub, Nat.reduceLeDiff, Nat.reduceLT, Nat.reduceEqDiff, Nat.zero_add, Nat.add_zero, Nat.le_refl, 
    reduceIte, ne_eq, not_false_eq_true, and_self, true_and, and_true, reduceCtorEq, cond_true, cond_false, c_spec_l04Calls, tc, n1, n2, n3, n4, ld_all hcl, g4, h10', lf, lfs, Bool.not_true, has]
        | false =>
          simp only [hoo, br_false] at has
          have e : callM m nd (callsL (callsM m f) m nd.kids out) = callsL (callsM m f) m nd.kids out ++ [nd.text] := by simp only [callM, h10, hnn, hoo, Bool.not_false, Bool.and_self, if_true]
          rw [e]
          have q2 := Pre.app σ1 [(⟨[], 1, 0, .own⟩ : Row)]
          have w2 := OwR.new σ1 [] 1
          obtain ⟨els, s1, s2⟩ := g1.1.pre (RP.mono _ _) q2
          have ee := fun bx => s1.els bx
          obtain ⟨a3, σ3, p1, p2, p3⟩ := w2.app 16 els (by rw [← s2.length]; simp only [List.length_nil]; omega)
          have hels : ∀ M, elsOf M 1 (.ls [[.str nd.text]]) = some [[.str nd.text]] := fun _ => rfl
          obtain ⟨a4, σ4, p4, p5, p6⟩ := p2.app 16 [[.str nd.text]] (by rw [List.nil_append, ← s2.length]; simp only [List.length_cons, List.length_nil]; omega)
          simp only [List.length_nil] at p1
          refine ⟨a4, σ4, ?_, ⟨p5.rs (by rw [List.nil_append]; exact (s2.imp (fun _ _ h => h)).snoc ⟨rfl, htx⟩), p5.ka (by have := g2.1; omega) p5.lt⟩, g2.pre (q2.trans (p3.step p6) (fun x h1 h2 => by omega))⟩
          rw [EE, Ex_run C_spec_l04Calls rfl]
          simp (config := {contextual := true, implicitDefEqProofs := false, maxSteps := 1000000}) only [
    ↓PR0, ↓PR1, ↓PR2, PO0, PO1, PO2, PO3, idxV_str, result, resOf, allSome, number, upd, List.map, Option.bind_some, Nat.reduceAdd, Nat.reduceSub, Nat.reduceLeDiff, Nat.reduceLT, Nat.reduceEqDiff, Nat.zero_add, Nat.add_zero, Nat.le_refl, 
    reduceIte, ne_eq, not_false_eq_true, and_self, true_and, and_true, reduceCtorEq, cond_true, cond_false, c_spec_l04Calls, tc, n1, n2, n3, n4, ld_all hcl, g4, h10', lf, lfs, Bool.not_true, has, List.replicate_succ, List.replicate_zero, 
    List.set_cons_zero, ee, p1, hels, p4]

/-! ### CallsOf -/

theorem DownT.mono {m : TreeM} : ∀ {f k}, DownT m f k → DownT m (f + 1) k
  | 0, _, h => h.elim
  | f + 1, k, ⟨h0, nd, h1, h2⟩ => ⟨h0, nd, h1, fun c hc => DownT.mono (h2 c hc)⟩
theorem DownT.mono' {m : TreeM} {f g : Nat} {k : Int} (hfg : f ≤ g) (h : DownT m f k) : DownT m g k := by
  induction hfg with
  | refl => exact h
  | step _ ih => exact ih.mono
theorem RightT.downAt {m : TreeM} (h : RightT m) {k : Nat} (hk : k < m.nodes.length) : DownT m 200 k := by
  obtain ⟨d, hd, hr⟩ := h.up k hk
  have h0 := h.root.1
  have key : ∀ x d, Reach m m.root.toNat x d → d < 200 → DownT m (200 - d) (x : Int) := by
    intro x d hr
    generalize ha : m.root.toNat = a at hr
    induction hr with
    | refl =>
      intro _
      have e : ((a : Nat) : Int) = m.root := by omega
      rw [e]; exact h.down
    | step _ h1 h2 ih =>
      rename_i y x d ny _
      intro hd
      have := ih (by omega)
      have e : 200 - d = (200 - (d + 1)) + 1 := by omega
      rw [e] at this
      obtain ⟨_, nd, g1, g2⟩ := this
      rw [Int.toNat_natCast, h1] at g1
      cases g1
      exact g2 _ h2
  exact (key k d hr hd).mono' (by omega)
/-- What CallsOf tells. -/
def CallsR (m : TreeM) (k : Int) (l : List (List UInt8)) (c : Int) : Prop := m.size ≤ 1048576 ∧ c = placeM m k ∧ ((c ≠ 0 ∧ l = []) ∨ (c = 0 ∧ l = callsM m 200 k []))
theorem callsR_all {m : TreeM} (k : Int) (hs : m.size ≤ 1048576) : ∃ l c, CallsR m k l c := by
  by_cases h : placeM m k = 0
  · exact ⟨callsM m 200 k [], 0, hs, h.symm, .inr ⟨rfl, rfl⟩⟩
  · exact ⟨[], placeM m k, hs, rfl, .inl ⟨h, rfl⟩⟩
theorem callsM_len {m : TreeM} (hR : RightT m) (hs : m.size ≤ 1048576) (f : Nat) (k : Int) : (callsM m f k []).length ≤ 1048576 := by
  have h1 := callsM_ok (m := m) f k [] (okN_nil _)
  have h2 := (funcsM_len hR hs).2
  simp only [okN] at h1; omega
theorem callsR_len {m : TreeM} {k : Int} {l : List (List UInt8)} {c : Int} (h : CallsR m k l c) : l.length ≤ 1048576 := by
  rcases h.2.2 with ⟨_, rfl⟩ | ⟨h1, rfl⟩
  · simp
  · exact callsM_len (placeM_ok (h.2.1.symm.trans h1)).1 h.1 _ _
theorem implCalls_nil {τ σ : Store} {m : TreeM} {a : AV} {r : Nat} (hT : RTree τ m [a, int m.root]) (hR : RightT m) (hs : m.size ≤ 1048576) (hp : Pre τ σ) (hob : ObjAt σ r [a, int m.root]) {k : Nat} (hk : k < m.nodes.length) : ∃ o σ', EE X f_impl_Tree_calls [.ptr r 0 0 0, int k, .nilsl] σ = some (o, σ') ∧ Pre σ σ' ∧ RSO (fun _ _ => RT) 1 σ.length σ'.length σ' (callsM m 200 k []) o := by
  obtain ⟨o, σ', h1, h2, h3, h4⟩ := callsI_all (X := X) (r := r) (lo := σ.length) hT hR hs hob.lt hp.1 200 k [] .nilsl σ (hR.downAt hk) hp hob (Nat.le_refl _) (Gr.nil _ _ _) (okN_nil _) (fun t ht => by cases ht)
  exact ⟨o, σ', h1, h3.weak (fun x hx h => by omega), ⟨h2.rsT h4, h2.slAt.2⟩⟩
theorem implCallsOf_eq (hX : RepX X) (σ : Store) (m : TreeM) (cs : List AV) (k : Int) (hk : I64 k) (l : List (List UInt8)) (c : Int) (hl : CallsR m k l c) (h : RTree σ m cs) (hs : m.size ≤ 1048576) :
    ∃ a' σ', EE X f_impl_CallsOf [.agg cs, int k] σ = some (.tup [a', int c], σ') ∧ Pre σ σ' ∧ RSO (fun _ _ => RT) 1 σ.length σ'.length σ' l a' := by
  have h0 := h
  obtain ⟨a, rfl, ha, hr, hln⟩ := h0
  have hc := ha.cellsOf
  have o1 := ObjAt.new σ [a, int m.root]
  have q1 := Pre.app σ [(⟨[[a, int m.root]], [a, int m.root].length, 0, .own⟩ : Row)]
  obtain ⟨σ2, g1, g2⟩ := askedNode_eq (X := X) hX _ m _ k (RTree.mono.pre h q1) hs
  have o2 := o1.pre g2
  obtain ⟨_, rfl, hl⟩ := hl
  have pl1 := fun bx o => o1.place bx o
  simp only [List.length_cons, List.length_nil, Nat.zero_add, Nat.reduceAdd] at g1 pl1
  rcases hl with ⟨h1, rfl⟩ | ⟨h1, rfl⟩
  · have hne : (placeM m k != 0) = true := by simpa using h1
    refine ⟨.nilsl, σ2, ?_, q1.pre g2, ⟨⟨[], SlAt.nil _ _, .nil⟩, KA.nil _ _⟩⟩
    rw [EE, Ex_run C_impl_CallsOf rfl]
    simp (config := {contextual := true, implicitDefEqProofs := false, maxSteps := 1000000}) only [
    ↓PR0, ↓PR1, ↓PR2, PO0, PO1, PO2, PO3, idxV_str, result, resOf, allSome, number, upd, List.map, Option.bind_some, Nat.reduceAdd, Nat.reduceSub, Nat.reduceLeDiff, Nat.reduceLT, Nat.reduceEqDiff, Nat.zero_add, Nat.add_zero, Nat.le_refl, 
    reduceIte, ne_eq, not_false_eq_true, and_self, true_and, and_true, reduceCtorEq, cond_true, cond_false, c_impl_CallsOf, hc, pl1, g1, hne]
  · have hne : (placeM m k != 0) = false := by simp [h1]
    obtain ⟨hR, hk0, hk1⟩ := placeM_ok h1
    obtain ⟨kn, rfl⟩ := Int.eq_ofNat_of_zero_le hk0
    obtain ⟨o, σ3, f1, f2, f3⟩ := implCalls_nil (X := X) (τ := σ) h hR hs (q1.pre g2) o2 (k := kn) (by omega)
    have hpre2 := q1.pre g2
    refine ⟨o, σ3, ?_, hpre2.pre f2, f3.wide (fun _ _ _ _ _ _ _ _ _ h => h) hpre2.1 (Nat.le_refl _)⟩
    rw [EE, Ex_run C_impl_CallsOf rfl]
    simp (config := {contextual := true, implicitDefEqProofs := false, maxSteps := 1000000}) only [
    ↓PR0, ↓PR1, ↓PR2, PO0, PO1, PO2, PO3, idxV_str, result, resOf, allSome, number, upd, List.map, Option.bind_some, Nat.reduceAdd, Nat.reduceSub, Nat.reduceLeDiff, Nat.reduceLT, Nat.reduceEqDiff, Nat.zero_add, Nat.add_zero, Nat.le_refl, 
    reduceIte, ne_eq, not_false_eq_true, and_self, true_and, and_true, reduceCtorEq, cond_true, cond_false, c_impl_CallsOf, hc, pl1, g1, hne, f1]
    rw [h1]
theorem specCallsOf_eq (σ : Store) (m : TreeM) (cs : List AV) (k : Int) (hk : I64 k) (l : List (List UInt8)) (c : Int) (hl : CallsR m k l c) (h : RTree σ m cs) (hs : m.size ≤ 1048576) :
    ∃ a' σ', EE X f_spec_CallsOf [.agg cs, int k] σ = some (.tup [a', int c], σ') ∧ Pre σ σ' ∧ RS RT 1 σ' l a' := by
  have h0 := h
  obtain ⟨σ2, g1, g2⟩ := l03Place_eq (X := X) σ m _ k h hs
  obtain ⟨a, rfl, ha, hr, hln⟩ := h0
  have hc := ha.cellsOf
  obtain ⟨_, rfl, hl⟩ := hl
  have nilr : RS RT 1 (σ2 ++ [(⟨[], 1, 0, .own⟩ : Row)]) [] (.sl σ2.length 0 0 0) := ⟨[], by simpa using SlAt.new σ2 [] 1, .nil⟩
  have q3 := Pre.app σ2 [(⟨[], 1, 0, .own⟩ : Row)]
  rcases hl with ⟨h1, rfl⟩ | ⟨h1, rfl⟩
  · have hne : (placeM m k != 0) = true := by simpa using h1
    refine ⟨_, _, ?_, g2.pre q3, nilr⟩
    rw [EE, Ex_run C_spec_CallsOf rfl]
    simp (config := {contextual := true, implicitDefEqProofs := false, maxSteps := 1000000}) only [
    ↓PR0, ↓PR1, ↓PR2, PO0, PO1, PO2, PO3, idxV_str, result, resOf, allSome, number, upd, List.map, Option.bind_some, Nat.reduceAdd, Nat.reduceSub, Nat.reduceLeDiff, Nat.reduceLT, Nat.reduceEqDiff, Nat.zero_add, Nat.add_zero, Nat.le_refl, 
    reduceIte, ne_eq, not_false_eq_true, and_self, true_and, and_true, reduceCtorEq, cond_true, cond_false, c_spec_CallsOf, hc, g1, hne, List.replicate_zero]
  · have hne : (placeM m k != 0) = false := by simp [h1]
    obtain ⟨hR, hk0, hk1⟩ := placeM_ok h1
    obtain ⟨kn, rfl⟩ := Int.eq_ofNat_of_zero_le hk0
    obtain ⟨o, σ3, f1, f2, f3⟩ := callsS_all (X := X) (lo := σ2.length) h hR hs 200 kn [] _ _ (hR.downAt (by omega)) (g2.pre q3) (by simp) ⟨nilr, (OwR.new σ2 [] 1).ka (Nat.le_refl _) (by simp)⟩ (okN_nil _)
    refine ⟨o, σ3, ?_, g2.pre (q3.pre f3), f2.1⟩
    rw [EE, Ex_run C_spec_CallsOf rfl]
    simp (config := {contextual := true, implicitDefEqProofs := false, maxSteps := 1000000}) only [
    ↓PR0, ↓PR1, ↓PR2, PO0, PO1, PO2, PO3, idxV_str, result, resOf, allSome, number, upd, List.map, Option.bind_some, Nat.reduceAdd, Nat.reduceSub, Nat.reduceLeDiff, Nat.reduceLT, Nat.reduceEqDiff, Nat.zero_add, Nat.add_zero, Nat.le_refl, 
    reduceIte, ne_eq, not_false_eq_true, and_self, true_and, and_true, reduceCtorEq, cond_true, cond_false, c_spec_CallsOf, hc, g1, hne, List.replicate_zero, f1]
    rw [h1]
end Go.X
