/- Reading tokens: LexSource of both. -/
import Derived.Test.YtiiiciekknpoeaaGreatDoorXD12
set_option linter.unusedVariables false
set_option linter.unusedSimpArgs false
set_option maxRecDepth 20000
namespace Go.X
open Go Go.Lib
variable {X : Call}

theorem qM_used : ∀ (n : Nat) (l : List UInt8) (x : List UInt8) (u : Nat), l.length ≤ n → quotedM l = some (x, u) → u ≤ l.length := by
  intro n
  induction n with
  | zero =>
    intro l x u hl h
    cases l with
    | nil => cases h
    | cons b r => simp at hl
  | succ n ih =>
    intro l x u hl h
    cases l with
    | nil => cases h
    | cons b r =>
      cases h39 : b == 39 with
      | true => rw [qM_quote h39] at h; cases h; simp
      | false =>
        cases h92 : b == 92 with
        | false =>
          rw [qM_other h39 h92] at h
          split at h
          · obtain ⟨y, hy, he⟩ := Option.map_eq_some_iff.1 h
            cases he
            have := ih r y.1 y.2 (by simpa using hl) hy
            simp only [List.length_cons]; omega
          · cases h
        | true =>
          cases r with
          | nil => rw [qM_esc0 h39] at h; cases h
          | cons c r =>
            rw [qM_esc h39 h92] at h
            split at h
            · obtain ⟨y, hy, he⟩ := Option.map_eq_some_iff.1 h
              cases he
              have := ih r y.1 y.2 (by simp only [List.length_cons] at hl; omega) hy
              simp only [List.length_cons]; omega
            · cases h
theorem lexM_le {l : List UInt8} {k : Int} {w : List UInt8} {n : Nat} (h : lexM l = some (k, w, n)) : n ≤ l.length := by
  cases l with
  | nil => cases h
  | cons b r =>
    simp only [lexM] at h
    split at h
    · split at h
      · simp only [Option.some.injEq, Prod.mk.injEq] at h
        obtain ⟨_, _, rfl⟩ := h
        exact runN_le _ _
      · cases h
    · split at h
      · split at h
        · simp only [Option.some.injEq, Prod.mk.injEq] at h
          obtain ⟨_, _, rfl⟩ := h
          exact runN_le _ _
        · cases h
      · split at h
        · split at h
          · rename_i x u hq
            split at h
            · simp only [Option.some.injEq, Prod.mk.injEq] at h
              obtain ⟨_, _, rfl⟩ := h
              have := qM_used r.length r x u (Nat.le_refl _) hq
              simp only [List.length_cons]; omega
            · cases h
          · cases h
        · split at h
          · cases h
          · simp only [Option.some.injEq, Prod.mk.injEq] at h
            obtain ⟨_, _, rfl⟩ := h
            rw [sign_two]
            split
            · rename_i ht
              cases r with
              | nil => cases ht
              | cons c r => simp
            · split <;> simp
theorem run_stop (pr : UInt8 → Bool) (t : List UInt8) (p : Nat) : ∀ h : p + runN pr (t.drop p) < t.length, pr t[p + runN pr (t.drop p)] = false := by
  have key : ∀ (l : List UInt8) (h : runN pr l < l.length), pr l[runN pr l] = false := by
    intro l
    induction l with
    | nil => intro h; simp at h
    | cons b l ih =>
      intro h
      cases hb : pr b with
      | true =>
        have e : runN pr (b :: l) = runN pr l + 1 := by simp only [runN, hb, if_true]
        simp only [e, List.getElem_cons_succ]
        exact ih (by rw [e] at h; simpa using h)
      | false =>
        have e : runN pr (b :: l) = 0 := by simp only [runN, hb, Bool.false_eq_true, if_false]
        simp only [e, List.getElem_cons_zero]
        exact hb
  intro h
  have h2 := key (t.drop p) (by rw [List.length_drop]; omega)
  rw [List.getElem_drop] at h2
  exact h2
abbrev LexOut := List TokM × Int × Int
def LexEnd (q : Nat) (t : List UInt8) (g : LexOut) (σ' : Store) (ex bk : Nat) {R : Type} (L : (Out → S → Option R) → Option R) : Prop :=
  (g.2.2 = 0 ∧ g.2.1 = 0 ∧ g.1.length ≤ 300 ∧ (∀ s ∈ g.1, tokOk s) ∧ ∃ a' pe, OwR q σ' 3 (cK g.1) a' ∧ ∀ kk, L kk = kk (.exit ex) ([(0, .v (.str t)), (5, .v a'), (6, .v (int pe)), (bk, .v (.bool false))], ⟨[], σ'⟩)) ∨
  (g.1 = [] ∧ ∃ s, RSO (fun _ _ => RTok) 3 (q + 1) σ'.length σ' [] s ∧ ∀ kk, L kk = kk .ret ([(2, .v s), (3, .v (int g.2.1)), (4, .v (int g.2.2))], ⟨[], σ'⟩))
theorem rso_nil (lo hi : Nat) (σ : Store) : RSO (fun _ _ => RTok) 3 lo hi σ [] .nilsl := ⟨⟨[], rfl, .nil⟩, fun r v i n e => by cases e⟩
theorem rso_new (lo : Nat) (σ : Store) (h : lo ≤ σ.length) : RSO (fun _ _ => RTok) 3 lo (σ ++ [(⟨[], 3, 0, .own⟩ : Row)]).length (σ ++ [(⟨[], 3, 0, .own⟩ : Row)]) [] (.sl σ.length 0 0 0) := by
  have hw := OwR.new σ [] 3
  exact ⟨hw.rs .nil, hw.ka h hw.lt⟩
set_option maxHeartbeats 1000000 in
theorem l02Lex_loop {R : Type} {q : Nat} (t : List UInt8) (ht : t.length ≤ 600) : ∀ f p out a σ, t.length < p + f → p ≤ t.length → out.length ≤ 300 → (∀ s ∈ out, tokOk s) → q < σ.length → OwR q σ 3 (cK out) a →
    ∃ σ', Fr (fun r => r = q) σ σ' ∧ LexEnd q t (lexGo t f p out) σ' 0 15 (R := R) (fun kk => loopK (EE X) [0, 5, 6] l_spec_l02Lex_0 ([(0, .v (.str t)), (5, .v a), (6, .v (int p))], ⟨[], σ⟩) kk) := by
  intro f
  induction f with
  | zero => intro p out a σ hf hp; omega
  | succ f ih =>
    intro p out a σ hf hp hlen hok hq hw
    by_cases hlt : p < t.length
    · have hlt' : (p : Int) < (t.length : Int) := by omega
      have hwi : IntKind.i64.wrap ((p : Int) + 1) = ((p + 1 : Nat) : Int) := wrap64 (by omega) (by omega)
      have hix := idx_nat t hlt
      have hl := hw.slAt.len
      rw [cK_len] at hl
      cases hb : blB t[p] with
      | true =>
        obtain ⟨σ', f1, f2⟩ := ih (p + 1) out a σ (by omega) (by omega) hlen hok hq hw
        have e : lexGo t (f + 1) p out = lexGo t f (p + 1) out := by rw [lexGo, List.getElem?_eq_getElem hlt]; simp only [hb, if_true]
        refine ⟨σ', f1, ?_⟩
        have step : ∀ kk : Out → S → Option R, loopK (EE X) [0, 5, 6] l_spec_l02Lex_0 ([(0, .v (.str t)), (5, .v a), (6, .v (int p))], ⟨[], σ⟩) kk = loopK (EE X) [0, 5, 6] l_spec_l02Lex_0 ([(0, .v (.str t)), (5, .v a), (6, .v (int ((p + 1 : Nat) : Int)))], ⟨[], σ⟩) kk := by
          intro kk
          rw [loopK_step l_spec_l02Lex_0.eq_1]
          simp only [blB] at hb
          cases h1 : t[p] == 32 with
          | true => simp (config := {contextual := true, implicitDefEqProofs := false, maxSteps := 1000000}) only [
    ↓PR0, ↓PR1, ↓PR2, PO0, PO1, PO2, PO3, result, resOf, allSome, number, upd, List.map, Option.bind_some, Nat.reduceAdd, Nat.reduceSub, Nat.reduceLeDiff, Nat.reduceLT, Nat.reduceEqDiff, Nat.zero_add, Nat.add_zero, Nat.le_refl, reduceIte, 
    ne_eq, not_false_eq_true, and_self, true_and, and_true, reduceCtorEq, cond_true, cond_false, hlt', decide_true, hix, b32i, h1, hwi]
          | false =>
            rw [h1, Bool.false_or] at hb
            cases h2 : t[p] == 9 with
            | true => simp (config := {contextual := true, implicitDefEqProofs := false, maxSteps := 1000000}) only [
    ↓PR0, ↓PR1, ↓PR2, PO0, PO1, PO2, PO3, result, resOf, allSome, number, upd, List.map, Option.bind_some, Nat.reduceAdd, Nat.reduceSub, Nat.reduceLeDiff, Nat.reduceLT, Nat.reduceEqDiff, Nat.zero_add, Nat.add_zero, Nat.le_refl, reduceIte, 
    ne_eq, not_false_eq_true, and_self, true_and, and_true, reduceCtorEq, cond_true, cond_false, hlt', decide_true, hix, b32i, h1, b9i, h2, hwi]
            | false =>
              rw [h2, Bool.false_or] at hb
              simp (config := {contextual := true, implicitDefEqProofs := false, maxSteps := 1000000}) only [
    ↓PR0, ↓PR1, ↓PR2, PO0, PO1, PO2, PO3, result, resOf, allSome, number, upd, List.map, Option.bind_some, Nat.reduceAdd, Nat.reduceSub, Nat.reduceLeDiff, Nat.reduceLT, Nat.reduceEqDiff, Nat.zero_add, Nat.add_zero, Nat.le_refl, reduceIte, 
    ne_eq, not_false_eq_true, and_self, true_and, and_true, reduceCtorEq, cond_true, cond_false, hlt', decide_true, hix, b32i, h1, b9i, h2, b10i, hb, hwi]
        unfold LexEnd at f2 ⊢
        rw [e]
        simp only [step]
        exact f2
      | false =>
        have hb' := hb
        simp only [blB, Bool.or_eq_false_iff] at hb'
        obtain ⟨⟨h1, h2⟩, h3⟩ := hb'
        by_cases h300 : out.length = 300
        · have h300' : ((out.length : Int) == 300) = true := by rw [beq_iff_eq]; omega
          have e : lexGo t (f + 1) p out = ([], (p : Int), 6) := by rw [lexGo, List.getElem?_eq_getElem hlt]; simp only [hb, Bool.false_eq_true, if_false, h300, if_true]
          refine ⟨_, Fr.app _ σ [(⟨[], 3, 0, .own⟩ : Row)], .inr ⟨by rw [e], _, rso_new (q + 1) σ hq, fun kk => ?_⟩⟩
          rw [e]
          dsimp only
          rw [loopK_step l_spec_l02Lex_0.eq_1]
          simp (config := {contextual := true, implicitDefEqProofs := false, maxSteps := 1000000}) only [
    ↓PR0, ↓PR1, ↓PR2, PO0, PO1, PO2, PO3, result, resOf, allSome, number, upd, List.map, Option.bind_some, Nat.reduceAdd, Nat.reduceSub, Nat.reduceLeDiff, Nat.reduceLT, Nat.reduceEqDiff, Nat.zero_add, Nat.add_zero, Nat.le_refl, reduceIte, 
    ne_eq, not_false_eq_true, and_self, true_and, and_true, reduceCtorEq, cond_true, cond_false, hlt', decide_true, hix, b32i, h1, b9i, h2, b10i, h3, hl, h300', List.replicate_zero]
        · have h300' : ((out.length : Int) == 300) = false := by rw [beq_eq_false_iff_ne]; omega
          obtain ⟨r, σ1, n1, n2, k, pq, w, n, ok, hr, hx⟩ := l02Next_eq (X := X) t p hlt (by omega) σ
          subst hr
          cases hm : lexM (t.drop p) with
          | none =>
            rw [hm] at hx
            simp only at hx
            subst hx
            have e : lexGo t (f + 1) p out = ([], (p : Int), 3) := by rw [lexGo, List.getElem?_eq_getElem hlt]; simp only [hb, Bool.false_eq_true, if_false, h300, hm]
            refine ⟨_, (n2.weak (fun _ _ h => h.elim)).step (Fr.app _ σ1 [(⟨[], 3, 0, .own⟩ : Row)]), .inr ⟨by rw [e], _, rso_new (q + 1) σ1 (by have := n2.1; omega), fun kk => ?_⟩⟩
            rw [e]
            dsimp only
            rw [loopK_step l_spec_l02Lex_0.eq_1]
            simp (config := {contextual := true, implicitDefEqProofs := false, maxSteps := 1000000}) only [
    ↓PR0, ↓PR1, ↓PR2, PO0, PO1, PO2, PO3, result, resOf, allSome, number, upd, List.map, Option.bind_some, Nat.reduceAdd, Nat.reduceSub, Nat.reduceLeDiff, Nat.reduceLT, Nat.reduceEqDiff, Nat.zero_add, Nat.add_zero, Nat.le_refl, reduceIte, 
    ne_eq, not_false_eq_true, and_self, true_and, and_true, reduceCtorEq, cond_true, cond_false, hlt', decide_true, hix, b32i, h1, b9i, h2, b10i, h3, hl, h300', n1, Bool.not_false, List.replicate_zero]
          | some kw =>
            obtain ⟨k', w', n'⟩ := kw
            rw [hm] at hx
            simp only at hx
            obtain ⟨rfl, rfl, rfl, rfl, rfl⟩ := hx
            obtain ⟨p1, p2, p3, p4⟩ := lexM_pos hm
            have p5 := lexM_le hm
            rw [List.length_drop] at p2 p5
            have e : lexGo t (f + 1) p out = lexGo t f (p + n') (out ++ [⟨k, p, w⟩]) := by rw [lexGo, List.getElem?_eq_getElem hlt]; simp only [hb, Bool.false_eq_true, if_false, h300, hm]
            obtain ⟨a1, σ2, g1, g2, g3⟩ := (hw.pre n2).app 32 (cK [⟨k, p, w⟩]) (by simp only [cK_len, List.length_cons, List.length_nil]; omega)
            rw [← cK_app] at g2
            have g1' : appV 3 32 σ1 [[int k, int (p : Int), .str w]] a = some (a1, σ2) := g1
            have hel : ∀ M, elsOf M 3 (.ls [[int k, int (p : Int), .str w]]) = some [[int k, int (p : Int), .str w]] := fun _ => rfl
            have cA : ∀ cs, cellsOf (.agg cs) = some cs := fun _ => rfl
            have hq2 : q < σ2.length := by have := n2.1; have := g3.1; omega
            obtain ⟨σ', f1, f2⟩ := ih (p + n') (out ++ [⟨k, p, w⟩]) a1 σ2 (by omega) (by omega) (by simp only [List.length_append, List.length_cons, List.length_nil]; omega) (by
              intro s hs
              rcases List.mem_append.1 hs with hs | hs
              · exact hok s hs
              · rw [List.mem_singleton] at hs; subst hs
                refine ⟨by simp only [I64]; omega, by simp only [I64]; omega, by simp only [LenOk]; omega⟩) hq2 g2
            refine ⟨σ', ((n2.weak (fun _ _ h => h.elim)).step g3).step f1, ?_⟩
            have step : ∀ kk : Out → S → Option R, loopK (EE X) [0, 5, 6] l_spec_l02Lex_0 ([(0, .v (.str t)), (5, .v a), (6, .v (int p))], ⟨[], σ⟩) kk = loopK (EE X) [0, 5, 6] l_spec_l02Lex_0 ([(0, .v (.str t)), (5, .v a1), (6, .v (int ((p + n' : Nat) : Int)))], ⟨[], σ2⟩) kk := by
              intro kk
              rw [loopK_step l_spec_l02Lex_0.eq_1]
              simp (config := {contextual := true, implicitDefEqProofs := false, maxSteps := 1000000}) only [
    ↓PR0, ↓PR1, ↓PR2, PO0, PO1, PO2, PO3, result, resOf, allSome, number, upd, List.map, Option.bind_some, Nat.reduceAdd, Nat.reduceSub, Nat.reduceLeDiff, Nat.reduceLT, Nat.reduceEqDiff, Nat.zero_add, Nat.add_zero, Nat.le_refl, reduceIte, 
    ne_eq, not_false_eq_true, and_self, true_and, and_true, reduceCtorEq, cond_true, cond_false, hlt', decide_true, hix, b32i, h1, b9i, h2, b10i, h3, hl, h300', n1, Bool.not_true, List.replicate_succ, List.replicate_zero, List.set_cons_zero, 
    cA, hel, g1']
            unfold LexEnd at f2 ⊢
            rw [e]
            simp only [step]
            exact f2
    · have hlt' : ¬ (p : Int) < (t.length : Int) := by omega
      have e : lexGo t (f + 1) p out = (out, 0, 0) := by rw [lexGo, List.getElem?_eq_none (by omega)]
      refine ⟨σ, Fr.refl _ _, .inl ?_⟩
      rw [e]
      refine ⟨rfl, rfl, hlen, hok, a, p, hw, fun kk => ?_⟩
      dsimp only
      rw [loopK_step l_spec_l02Lex_0.eq_1]
      simp (config := {contextual := true, implicitDefEqProofs := false, maxSteps := 1000000}) only [
    ↓PR0, ↓PR1, ↓PR2, PO0, PO1, PO2, PO3, result, resOf, allSome, number, upd, List.map, Option.bind_some, Nat.reduceAdd, Nat.reduceSub, Nat.reduceLeDiff, Nat.reduceLT, Nat.reduceEqDiff, Nat.zero_add, Nat.add_zero, Nat.le_refl, reduceIte, 
    ne_eq, not_false_eq_true, and_self, true_and, and_true, reduceCtorEq, cond_true, cond_false, hlt', decide_false]
set_option maxHeartbeats 1000000 in
theorem lexSource_loop {R : Type} {q : Nat} (hX : LibX X) (t : List UInt8) (ht : t.length ≤ 600) : ∀ f p out a σ, t.length < p + f → p ≤ t.length → (∀ h : p < t.length, blB t[p] = false) → out.length ≤ 300 → (∀ s ∈ out, tokOk s) → q < σ.length → OwR q σ 3 (cK out) a →
    ∃ σ', Fr (fun r => r = q) σ σ' ∧ LexEnd q t (lexGo t f p out) σ' 1 24 (R := R) (fun kk => loopK (EE X) [0, 5, 6] l_impl_LexSource_0 ([(0, .v (.str t)), (5, .v a), (6, .v (int p))], ⟨[], σ⟩) kk) := by
  intro f
  induction f using Nat.strongRecOn with
  | _ f ih =>
    intro p out a σ hf hp hnb hlen hok hq hw
    cases f with
    | zero => omega
    | succ f =>
    by_cases hlt : p < t.length
    · have hlt' : (p : Int) < (t.length : Int) := by omega
      have hl := hw.slAt.len
      rw [cK_len] at hl
      have hb := hnb hlt
      by_cases h300 : out.length = 300
      · have h300' : ((out.length : Int) == 300) = true := by rw [beq_iff_eq]; omega
        have e : lexGo t (f + 1) p out = ([], (p : Int), 6) := by rw [lexGo, List.getElem?_eq_getElem hlt]; simp only [hb, Bool.false_eq_true, if_false, h300, if_true]
        refine ⟨σ, Fr.refl _ _, .inr ⟨by rw [e], _, rso_nil _ _ _, fun kk => ?_⟩⟩
        rw [e]
        dsimp only
        rw [loopK_step l_impl_LexSource_0.eq_1]
        simp (config := {contextual := true, implicitDefEqProofs := false, maxSteps := 1000000}) only [
    ↓PR0, ↓PR1, ↓PR2, PO0, PO1, PO2, PO3, result, resOf, allSome, number, upd, List.map, Option.bind_some, Nat.reduceAdd, Nat.reduceSub, Nat.reduceLeDiff, Nat.reduceLT, Nat.reduceEqDiff, Nat.zero_add, Nat.add_zero, Nat.le_refl, reduceIte, 
    ne_eq, not_false_eq_true, and_self, true_and, and_true, reduceCtorEq, cond_true, cond_false, hlt', decide_true, hl, h300']
      · have h300' : ((out.length : Int) == 300) = false := by rw [beq_eq_false_iff_ne]; omega
        obtain ⟨r, σ1, n1, n2, k, pq, w, n, ok, hr, hx⟩ := token_eq hX t p hlt (by omega) σ
        subst hr
        cases hm : lexM (t.drop p) with
        | none =>
          rw [hm] at hx
          simp only at hx
          subst hx
          have e : lexGo t (f + 1) p out = ([], (p : Int), 3) := by rw [lexGo, List.getElem?_eq_getElem hlt]; simp only [hb, Bool.false_eq_true, if_false, h300, hm]
          refine ⟨σ1, n2.weak (fun _ _ h => h.elim), .inr ⟨by rw [e], _, rso_nil _ _ _, fun kk => ?_⟩⟩
          rw [e]
          dsimp only
          rw [loopK_step l_impl_LexSource_0.eq_1]
          simp (config := {contextual := true, implicitDefEqProofs := false, maxSteps := 1000000}) only [
    ↓PR0, ↓PR1, ↓PR2, PO0, PO1, PO2, PO3, result, resOf, allSome, number, upd, List.map, Option.bind_some, Nat.reduceAdd, Nat.reduceSub, Nat.reduceLeDiff, Nat.reduceLT, Nat.reduceEqDiff, Nat.zero_add, Nat.add_zero, Nat.le_refl, reduceIte, 
    ne_eq, not_false_eq_true, and_self, true_and, and_true, reduceCtorEq, cond_true, cond_false, hlt', decide_true, hl, h300', n1, Bool.not_false]
        | some kw =>
          obtain ⟨k', w', n'⟩ := kw
          rw [hm] at hx
          simp only at hx
          obtain ⟨rfl, rfl, rfl, rfl, rfl⟩ := hx
          obtain ⟨p1, p2, p3, p4⟩ := lexM_pos hm
          have p5 := lexM_le hm
          rw [List.length_drop] at p2 p5
          have e : lexGo t (f + 1) p out = lexGo t f (p + n') (out ++ [⟨k, p, w⟩]) := by rw [lexGo, List.getElem?_eq_getElem hlt]; simp only [hb, Bool.false_eq_true, if_false, h300, hm]
          obtain ⟨a1, σ2, g1, g2, g3⟩ := (hw.pre n2).app 32 (cK [⟨k, p, w⟩]) (by simp only [cK_len, List.length_cons, List.length_nil]; omega)
          rw [← cK_app] at g2
          have g1' : appV 3 32 σ1 [[int k, int (p : Int), .str w]] a = some (a1, σ2) := g1
          have hel : ∀ M, elsOf M 3 (.ls [[int k, int (p : Int), .str w]]) = some [[int k, int (p : Int), .str w]] := fun _ => rfl
          have cA : ∀ cs, cellsOf (.agg cs) = some cs := fun _ => rfl
          have hq2 : q < σ2.length := by have := n2.1; have := g3.1; omega
          have hr := run_eq (X := X) blB f_impl_isBlank [] t (p + n') σ2 (fun b => isBlank_eq b σ2) (by omega) (by omega)
          have hle := runN_le blB (t.drop (p + n'))
          rw [List.length_drop] at hle
          obtain ⟨f', hf'⟩ : ∃ f', f = runN blB (t.drop (p + n')) + f' := ⟨f - runN blB (t.drop (p + n')), by omega⟩
          have hsk := lexGo_skip t (out ++ [⟨k, p, w⟩]) (runN blB (t.drop (p + n'))) f' (p + n') (Nat.le_refl _)
          rw [← hf'] at hsk
          obtain ⟨σ', f1, f2⟩ := ih f' (by omega) (p + n' + runN blB (t.drop (p + n'))) (out ++ [⟨k, p, w⟩]) a1 σ2 (by omega) (by omega) (run_stop blB t (p + n')) (by simp only [List.length_append, List.length_cons, List.length_nil]; omega) (by
            intro s hs
            rcases List.mem_append.1 hs with hs | hs
            · exact hok s hs
            · rw [List.mem_singleton] at hs; subst hs
              refine ⟨by simp only [I64]; omega, by simp only [I64]; omega, by simp only [LenOk]; omega⟩) hq2 g2
          refine ⟨σ', ((n2.weak (fun _ _ h => h.elim)).step g3).step f1, ?_⟩
          have step : ∀ kk : Out → S → Option R, loopK (EE X) [0, 5, 6] l_impl_LexSource_0 ([(0, .v (.str t)), (5, .v a), (6, .v (int p))], ⟨[], σ⟩) kk = loopK (EE X) [0, 5, 6] l_impl_LexSource_0 ([(0, .v (.str t)), (5, .v a1), (6, .v (int ((p + n' + runN blB (t.drop (p + n')) : Nat) : Int)))], ⟨[], σ2⟩) kk := by
            intro kk
            rw [loopK_step l_impl_LexSource_0.eq_1]
            simp (config := {contextual := true, implicitDefEqProofs := false, maxSteps := 1000000}) only [
    ↓PR0, ↓PR1, ↓PR2, PO0, PO1, PO2, PO3, result, resOf, allSome, number, upd, List.map, Option.bind_some, Nat.reduceAdd, Nat.reduceSub, Nat.reduceLeDiff, Nat.reduceLT, Nat.reduceEqDiff, Nat.zero_add, Nat.add_zero, Nat.le_refl, reduceIte, 
    ne_eq, not_false_eq_true, and_self, true_and, and_true, reduceCtorEq, cond_true, cond_false, hlt', decide_true, hl, h300', n1, Bool.not_true, List.replicate_succ, List.replicate_zero, List.set_cons_zero, cA, hel, g1', hr]
          unfold LexEnd at f2 ⊢
          rw [e, hsk]
          simp only [step]
          exact f2
    · have hlt' : ¬ (p : Int) < (t.length : Int) := by omega
      have e : lexGo t (f + 1) p out = (out, 0, 0) := by rw [lexGo, List.getElem?_eq_none (by omega)]
      refine ⟨σ, Fr.refl _ _, .inl ?_⟩
      rw [e]
      refine ⟨rfl, rfl, hlen, hok, a, p, hw, fun kk => ?_⟩
      dsimp only
      rw [loopK_step l_impl_LexSource_0.eq_1]
      simp (config := {contextual := true, implicitDefEqProofs := false, maxSteps := 1000000}) only [
    ↓PR0, ↓PR1, ↓PR2, PO0, PO1, PO2, PO3, result, resOf, allSome, number, upd, List.map, Option.bind_some, Nat.reduceAdd, Nat.reduceSub, Nat.reduceLeDiff, Nat.reduceLT, Nat.reduceEqDiff, Nat.zero_add, Nat.add_zero, Nat.le_refl, reduceIte, 
    ne_eq, not_false_eq_true, and_self, true_and, and_true, reduceCtorEq, cond_true, cond_false, hlt', decide_false]
end Go.X
