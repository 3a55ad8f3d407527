/- Trees: what comes of calls, of both; the law of Comes. -/
import Derived.Test.YtekcdlibmngkiaaXA3
import Derived.Test.YtekcdlibmngkiaaXM5
set_option linter.unusedVariables false
set_option linter.unusedSimpArgs false
set_option maxRecDepth 20000
namespace Go.X
open Go
variable {X : Call}

abbrev Two2 (q1 q2 : Nat) : Nat → Prop := fun x => x = q1 ∨ x = q2
theorem cT_get {l : List (List UInt8)} {i : Nat} {t : List UInt8} (h : l[i]? = some t) : (cT l)[i]? = some [.str t] := by rw [List.getElem?_map, h]; rfl
theorem OwR.rsT {q : Nat} {σ : Store} {l : List (List UInt8)} {a : AV} (h : OwR q σ 1 (cT l) a) (hl : ∀ t ∈ l, LenOk t.length) : RS RT 1 σ l a := h.rs (All2.map (fun t ht => ⟨rfl, hl t ht⟩))
theorem OwR.appT {q : Nat} {σ : Store} {l : List (List UInt8)} {a : AV} (h : OwR q σ 1 (cT l) a) (t : List UInt8) (hl : l.length ≤ 2000000) : ∃ a' σ', appV 1 16 σ [[.str t]] a = some (a', σ') ∧ OwR q σ' 1 (cT (l ++ [t])) a' ∧ Fr (fun x => x = q) σ σ' := by
  obtain ⟨a', σ', h1, h2, h3⟩ := h.app 16 [[.str t]] (by simp only [List.length_map, List.length_cons, List.length_nil]; omega)
  exact ⟨a', σ', h1, by simpa [cT] using h2, h3⟩
theorem okN.len {m : TreeM} (hR : RightT m) (hs : m.size ≤ 1048576) {out : List (List UInt8)} (h : okN (namesM m) out) : out.length ≤ 1048576 := by
  have := (funcsM_len hR hs).2; simp only [okN] at h; omega
theorem names_lenOk {τ : Store} {m : TreeM} {a : AV} (hT : RTree τ m [a, int m.root]) (hR : RightT m) {t : List UInt8} (h : (namesM m).any (fun x => t == x) = true) : LenOk t.length := by
  simp only [List.any_eq_true, beq_iff_eq] at h
  obtain ⟨x, hx, rfl⟩ := h
  simp only [namesM, List.mem_map] at hx
  obtain ⟨k, hk, rfl⟩ := hx
  obtain ⟨h0, h1, _⟩ := hR.funcIn hk
  obtain ⟨c, rfl⟩ := Int.eq_ofNat_of_zero_le h0
  have hcl : c < m.nodes.length := by omega
  rw [(textM_at (List.getElem?_eq_getElem hcl)).1]
  exact hT.text (List.getElem?_eq_getElem hcl)
theorem implAdd_loop {R : Type} {τ : Store} {m : TreeM} {a : AV} {r q1 q2 : Nat} (hT : RTree τ m [a, int m.root]) (hR : RightT m) (hs : m.size ≤ 1048576) (hq : q1 ≠ q2) (na : AV) (l : List (List UInt8)) (la : AV) (hl : ∀ x ∈ l, (namesM m).any (fun y => x == y) = true) (hln : l.length ≤ 1048576) :
    ∀ d i out todo (o t : AV) (σ : Store), i + d = l.length → okN (namesM m) out → todo.length + cntN (namesM m) out ≤ 1100000 → Dep (fun x => ¬ Two2 q1 q2 x) σ (fun st => RS RT 1 st l la) → (∀ x ∈ out, LenOk x.length) → OwR q1 σ 1 (cT out) o → OwR q2 σ 1 (cT todo) t →
    ∃ o' t' σ', Fr (Two2 q1 q2) σ σ' ∧ OwR q1 σ' 1 (cT (addAll (l.drop i) out todo).1) o' ∧ OwR q2 σ' 1 (cT (addAll (l.drop i) out todo).2) t' ∧ ∀ kk : Out → S → Option R,
    loopK (EE X) [0, 5, 6, 7, 32, 33, 34] l_impl_Tree_comes_0 ([(0, .v (.ptr r 0 0 0)), (5, .v o), (6, .v na), (7, .v t), (32, .v la), (33, .v (int l.length)), (34, .v (int i))], ⟨[], σ⟩) kk =
      kk (.exit 2) ([(0, .v (.ptr r 0 0 0)), (5, .v o'), (6, .v na), (7, .v t'), (32, .v la), (33, .v (int l.length)), (34, .v (int l.length)), (35, .v (.bool false))], ⟨[], σ'⟩) := by
  intro d
  induction d with
  | zero =>
    intro i out todo o t σ hi hok hb hla hlk ho ht
    have e : i = l.length := by omega
    subst e
    rw [List.drop_length]
    refine ⟨o, t, σ, Fr.refl _ _, ho, ht, fun kk => ?_⟩
    rw [loopK_step l_impl_Tree_comes_0.eq_1]
    simp (config := {contextual := true, implicitDefEqProofs := false, maxSteps := 1000000}) only [
    ↓PR0, ↓PR1, ↓PR2, PO0, PO1, PO2, PO3, idxV_str, result, resOf, allSome, number, upd, List.map, Option.bind_some, Nat.reduceAdd, Nat.reduceSub, Nat.reduceLeDiff, Nat.reduceLT, Nat.reduceEqDiff, Nat.zero_add, Nat.add_zero, Nat.le_refl, 
    reduceIte, ne_eq, not_false_eq_true, and_self, true_and, and_true, reduceCtorEq, cond_true, cond_false, Int.lt_irrefl, decide_false]
  | succ d ih =>
    intro i out todo o t σ hi hok hb hla hlk ho ht
    have hlt : i < l.length := by omega
    have hlt' : (i : Int) < (l.length : Int) := by omega
    have hwi : IntKind.i64.wrap ((i : Int) + 1) = ((i + 1 : Nat) : Int) := wrap64 (by omega) (by omega)
    obtain ⟨c1, ⟨hp', hlx⟩, ha1, ha2, _⟩ := hla.self.get (List.getElem?_eq_getElem hlt)
    subst hp'
    have hin := hl _ (List.getElem_mem hlt)
    have q := contT_eq (X := X) σ out o l[i] (ho.rsT hlk) (by have := hok.len hR hs; omega)
    rw [List.drop_eq_getElem_cons hlt, addAll]
    cases hc : out.any (fun x => l[i] == x) with
    | true =>
      rw [hc] at q
      simp only [if_true]
      obtain ⟨o', t', σ', f1, f2, f3, f4⟩ := ih (i + 1) out todo o t σ (by omega) hok hb hla hlk ho ht
      refine ⟨o', t', σ', f1, f2, f3, fun kk => ?_⟩
      rw [← f4 kk, loopK_step l_impl_Tree_comes_0.eq_1]
      simp (config := {contextual := true, implicitDefEqProofs := false, maxSteps := 1000000}) only [
    ↓PR0, ↓PR1, ↓PR2, PO0, PO1, PO2, PO3, idxV_str, result, resOf, allSome, number, upd, List.map, Option.bind_some, Nat.reduceAdd, Nat.reduceSub, Nat.reduceLeDiff, Nat.reduceLT, Nat.reduceEqDiff, Nat.zero_add, Nat.add_zero, Nat.le_refl, 
    reduceIte, ne_eq, not_false_eq_true, and_self, true_and, and_true, reduceCtorEq, cond_true, cond_false, hlt', decide_true, ha1, ha2, q, Bool.not_true, hwi]
    | false =>
      rw [hc] at q
      simp only [Bool.false_eq_true, if_false]
      obtain ⟨o1, σ1, g1, g2, g3⟩ := ho.appT l[i] (by have := hok.len hR hs; omega)
      obtain ⟨t1, σ2, g4, g5, g6⟩ := (ht.fr g3 (fun e => hq e.symm)).appT l[i] (by omega)
      have hel : ∀ M, elsOf M 1 (.ls [[.str l[i]]]) = some [[.str l[i]]] := fun _ => rfl
      have hcn := cntN_add (namesM m) out l[i] hin hc
      have fr2 : Fr (Two2 q1 q2) σ σ2 := (g3.weak (fun x _ h => .inl h)).step (g6.weak (fun x _ h => .inr h))
      obtain ⟨o', t', σ', f1, f2, f3, f4⟩ := ih (i + 1) (out ++ [l[i]]) (todo ++ [l[i]]) o1 t1 σ2 (by omega) (hok.add hin hc) (by simp; omega) (hla.fr fr2 (fun x _ h h' => h h')) (fun x hx => by rcases List.mem_append.1 hx with hx | hx; exact hlk x hx; rw [List.mem_singleton] at hx; subst hx; exact hlx) (g2.fr g6 hq) g5
      refine ⟨o', t', σ', fr2.step f1, f2, f3, fun kk => ?_⟩
      rw [← f4 kk, loopK_step l_impl_Tree_comes_0.eq_1]
      simp (config := {contextual := true, implicitDefEqProofs := false, maxSteps := 1000000}) only [
    ↓PR0, ↓PR1, ↓PR2, PO0, PO1, PO2, PO3, idxV_str, result, resOf, allSome, number, upd, List.map, Option.bind_some, Nat.reduceAdd, Nat.reduceSub, Nat.reduceLeDiff, Nat.reduceLT, Nat.reduceEqDiff, Nat.zero_add, Nat.add_zero, Nat.le_refl, 
    reduceIte, ne_eq, not_false_eq_true, and_self, true_and, and_true, reduceCtorEq, cond_true, cond_false, hlt', decide_true, ha1, ha2, q, Bool.not_false, List.replicate_succ, List.replicate_zero, List.set_cons_zero, hel, g1, g4, hwi]
theorem addAll_sub {names : List (List UInt8)} : ∀ (l out todo : List (List UInt8)), (∀ x ∈ l, names.any (fun y => x == y) = true) → (∀ x ∈ out, names.any (fun y => x == y) = true) → ∀ x ∈ (addAll l out todo).1, names.any (fun y => x == y) = true
  | [], out, todo, _, h => h
  | n :: l, out, todo, h1, h2 => by
    simp only [addAll]
    split
    · exact addAll_sub l out todo (fun x hx => h1 x (by simp [hx])) h2
    · refine addAll_sub l _ _ (fun x hx => h1 x (by simp [hx])) (fun x hx => ?_)
      rcases List.mem_append.1 hx with hx | hx
      · exact h2 x hx
      · rw [List.mem_singleton] at hx; subst hx; exact h1 x (by simp)
theorem slc1 {σ : Store} {sz n : Nat} {a : AV} {els : List (List AV)} (h : SlAt σ sz a els) (hn : els.length = n + 1) (g : Regs) : slcV g σ sz (some (.c (int 1))) none a = some (subA a 1 n) := by
  rw [h.slcV]
  simp only [bnd_some, evv_c, th_some, intOf_int, bnd_none]
  rw [if_pos ⟨by decide, by omega, by omega⟩]
  have : ((els.length : Int)).toNat - (1 : Int).toNat = n := by rw [Int.toNat_natCast, hn]; rfl
  rw [this]; rfl
theorem OwR.tail {q : Nat} {σ : Store} {t : List UInt8} {l : List (List UInt8)} {a : AV} (h : OwR q σ 1 (cT (t :: l)) a) : OwR q σ 1 (cT l) (subA a 1 l.length) := by
  have := h.cut 1 (by simp)
  simpa [cT] using this
theorem implComes_loop {R : Type} {τ : Store} {m : TreeM} {a : AV} {r q1 q2 : Nat} (hT : RTree τ m [a, int m.root]) (hR : RightT m) (hs : m.size ≤ 1048576) (hq : q1 ≠ q2) (hr1 : r ≠ q1) (hr2 : r ≠ q2) (ht1 : τ.length ≤ q1) (ht2 : τ.length ≤ q2) (na : AV) :
    ∀ f out todo (o t : AV) (σ : Store), cntN (namesM m) out + todo.length < f → f ≤ 1050000 → okN (namesM m) out → (∀ x ∈ todo, (namesM m).any (fun y => x == y) = true) → Pre τ σ → ObjAt σ r [a, int m.root] → Dep (fun x => ¬ Two2 q1 q2 x) σ (fun st => RS RT 1 st (namesM m) na) → (∀ x ∈ out, (namesM m).any (fun y => x == y) = true) → OwR q1 σ 1 (cT out) o → OwR q2 σ 1 (cT todo) t →
    ∃ o' σ', Fr (Two2 q1 q2) σ σ' ∧ OwR q1 σ' 1 (cT (comesM m f out todo)) o' ∧ (∀ x ∈ comesM m f out todo, (namesM m).any (fun y => x == y) = true) ∧ okN (namesM m) (comesM m f out todo) ∧ ∃ g, ∀ kk : Out → S → Option R,
    loopK (EE X) [0, 5, 6, 7] l_impl_Tree_comes_1 ([(0, .v (.ptr r 0 0 0)), (5, .v o), (6, .v na), (7, .v t)], ⟨[], σ⟩) kk = kk (.exit 0) ((0, .v (.ptr r 0 0 0)) :: (5, .v o') :: g, ⟨[], σ'⟩) := by
  intro f
  induction f with
  | zero => intro out todo o t σ h; omega
  | succ f ih =>
    intro out todo o t σ hf hfb hok htd hp hob hna hin ho ht
    have tl := ht.slAt.len
    cases todo with
    | nil =>
      simp only [List.map_nil, List.length_nil] at tl
      refine ⟨o, σ, Fr.refl _ _, by simpa [comesM] using ho, by simpa [comesM] using hin, by simpa [comesM] using hok, [(6, .v na), (7, .v t), (18, .v (.bool false))], fun kk => ?_⟩
      have h00 : ¬ ((0 : Int) < ((0 : Nat) : Int)) := by decide
      rw [loopK_step l_impl_Tree_comes_1.eq_1]
      simp (config := {contextual := true, implicitDefEqProofs := false, maxSteps := 1000000}) only [
    ↓PR0, ↓PR1, ↓PR2, PO0, PO1, PO2, PO3, idxV_str, result, resOf, allSome, number, upd, List.map, Option.bind_some, Nat.reduceAdd, Nat.reduceSub, Nat.reduceLeDiff, Nat.reduceLT, Nat.reduceEqDiff, Nat.zero_add, Nat.add_zero, Nat.le_refl, 
    reduceIte, ne_eq, not_false_eq_true, and_self, true_and, and_true, reduceCtorEq, cond_true, cond_false, tl, h00, decide_false]
    | cons t0 todo =>
      simp only [List.map_cons, List.length_cons, List.length_map] at tl
      have h01 : (0 : Int) < ((todo.length + 1 : Nat) : Int) := by omega
      have hft0 := htd t0 (by simp)
      have t0len := names_lenOk hT hR hft0
      have tds : ∀ x ∈ t0 :: todo, LenOk x.length := fun x hx => names_lenOk hT hR (htd x hx)
      obtain ⟨i, e1, e2⟩ := funcOf_at hR hft0
      -- the functions
      obtain ⟨fa, σ1, g1, g2, g3⟩ := functions_eq (X := X) hT hR hs hp hob
      have ht' := (ht.pre g2).rsT tds
      have hget : (t0 :: todo)[0]? = some t0 := rfl
      obtain ⟨c0, ⟨hp0, _⟩, u1, u2, _⟩ := ((ht.rsT tds)).get hget
      subst hp0
      obtain ⟨c0, ⟨hp0, _⟩, v1, v2, _⟩ := (ht'.get hget)
      subst hp0
      simp only [Int.cast_ofNat_Int] at u1 v1
      have hix := indexT_eq (X := X) σ1 (namesM m) na t0 ((hna.pre g2).self) (by have := (funcsM_len hR hs).2; omega)
      rw [e1] at hix
      obtain ⟨c0, ⟨hp0, _⟩, w1, w2, _⟩ := g3.1.get e2
      subst hp0
      -- its calls
      have hfin := hR.funcIn (List.mem_of_getElem? e2)
      obtain ⟨fk, hfk⟩ := Int.eq_ofNat_of_zero_le hfin.1
      obtain ⟨la, σ2, p1, p2, p3⟩ := implCalls_nil (X := X) hT hR hs (hp.pre g2) (hob.pre g2) (k := fk) (by omega)
      rw [← hfk] at p1
      have hlo : callsM m 200 (fk : Nat) [] = listOf m t0 := by rw [← hfk]; rfl
      rw [hlo] at p3
      have hll := p3.1.len
      have hlin := listOf_in (m := m) t0
      have hlb : (listOf m t0).length ≤ 1048576 := callsM_len hR hs _ _
      have pre12 := g2.pre p2
      have q1lt := ho.lt
      have q2lt := ht.lt
      have hla2 : Dep (fun x => ¬ Two2 q1 q2 x) σ2 (fun st => RS RT 1 st (listOf m t0) la) := p3.dep1.wide (fun x _ hx h => by have := pre12.1; have := g2.1; rcases h with h | h <;> omega)
      obtain ⟨o3, t3, σ3, k1, k2, k3, k4⟩ := implAdd_loop (X := X) (R := R) (r := r) hT hR hs hq na (listOf m t0) la hlin hlb (listOf m t0).length 0 out (t0 :: todo) o t σ2 (by omega) hok (by simp only [List.length_cons] at hf ⊢; omega) hla2 (fun x hx => names_lenOk hT hR (hin x hx)) (ho.pre pre12) (ht.pre pre12)
      simp only [List.drop_zero, Int.cast_ofNat_Int] at k2 k3 k4
      rw [addAll_cons] at k2 k3
      simp only at k2 k3
      obtain ⟨a1, a2, a3⟩ := addAll_ok (listOf m t0) out todo hlin hok (fun x hx => htd x (by simp [hx]))
      have fr13 : Fr (Two2 q1 q2) σ σ3 := (Pre.up pre12).step k1
      have hsl := fun g => slc1 k3.slAt (n := (addAll (listOf m t0) out todo).2.length) (by simp) g
      have hin3 : ∀ x ∈ (addAll (listOf m t0) out todo).1, (namesM m).any (fun y => x == y) = true := by
        have key : ∀ (l out todo : List (List UInt8)), (∀ x ∈ l, (namesM m).any (fun y => x == y) = true) → (∀ x ∈ out, (namesM m).any (fun y => x == y) = true) → ∀ x ∈ (addAll l out todo).1, (namesM m).any (fun y => x == y) = true := by
          intro l
          induction l with
          | nil => intro out todo _ h; exact h
          | cons n l ih2 =>
            intro out todo h1 h2
            simp only [addAll]
            split
            · exact ih2 out todo (fun x hx => h1 x (by simp [hx])) h2
            · refine ih2 _ _ (fun x hx => h1 x (by simp [hx])) (fun x hx => ?_)
              rcases List.mem_append.1 hx with hx | hx
              · exact h2 x hx
              · rw [List.mem_singleton] at hx; subst hx; exact h1 x (by simp)
        exact key _ _ _ hlin hin
      obtain ⟨o', σ', f1, f2, f3, f3b, g, f4⟩ := ih _ _ o3 _ σ3 (by simp only [List.length_cons] at hf; omega) (by omega) a1 a2 (hp.trans fr13 (fun x h1 h2 => by rcases h2 with h2 | h2 <;> omega)) (hob.fr fr13 (fun h => by rcases h with h | h <;> omega)) (hna.fr fr13 (fun x _ h h' => h h')) hin3 k2 k3.tail
      refine ⟨o', σ', fr13.step f1, by rw [comesM]; exact f2, by rw [comesM]; exact f3, by rw [comesM]; exact f3b, g, fun kk => ?_⟩
      rw [← f4 kk, loopK_step l_impl_Tree_comes_1.eq_1]
      simp (config := {contextual := true, implicitDefEqProofs := false, maxSteps := 1000000}) only [
    ↓PR0, ↓PR1, ↓PR2, PO0, PO1, PO2, PO3, idxV_str, result, resOf, allSome, number, upd, List.map, Option.bind_some, Nat.reduceAdd, Nat.reduceSub, Nat.reduceLeDiff, Nat.reduceLT, Nat.reduceEqDiff, Nat.zero_add, Nat.add_zero, Nat.le_refl, 
    reduceIte, ne_eq, not_false_eq_true, and_self, true_and, and_true, reduceCtorEq, cond_true, cond_false, tl, h01, decide_true, g1, u1, u2, v1, v2, hix, w1, w2, evG_iadr, p1, hll, k4, hsl]
end Go.X
