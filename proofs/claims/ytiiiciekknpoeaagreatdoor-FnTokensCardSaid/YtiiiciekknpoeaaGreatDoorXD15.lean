/- Tokens joined: the law of JoinTokens. -/
import Derived.Test.YtiiiciekknpoeaaGreatDoorXD7
import Derived.Test.YtiiiciekknpoeaaGreatDoorXD11
import Derived.Lib.Join
set_option linter.unusedVariables false
set_option linter.unusedSimpArgs false
set_option maxRecDepth 20000
namespace Go.X
open Go Go.Lib
variable {X : Call}

/-- strings.Join, by its contract. -/
def JoinX (X : Call) : Prop := ∀ (σ : Store) (l : List (List UInt8)) (a : AV) (sep : List UInt8), RS RT 1 σ l a → l.length ≤ 1048576 → (Lib.join l sep).length ≤ 140737488355328 → EE X f_strings_Join [a, .str sep] σ = some (.str (Lib.join l sep), σ)
def cX (l : List (List UInt8)) : List (List AV) := l.map fun t => [.str t]
theorem cX_app (a b : List (List UInt8)) : cX (a ++ b) = cX a ++ cX b := by simp [cX]
theorem cX_len (l : List (List UInt8)) : (cX l).length = l.length := by simp [cX]
theorem rtok_cK {σ : Store} {l : List TokM} {a : AV} (h : RS RTok 3 σ l a) : SlAt σ 3 a (l.map TokM.cells) ∧ ∀ s ∈ l, I64 s.kind ∧ I64 s.place ∧ LenOk s.text.length := by
  obtain ⟨els, h1, h2⟩ := h
  have he := RTok.map_els h2
  subst he
  refine ⟨h1, fun s hs => ?_⟩
  clear h1
  generalize l.map TokM.cells = els at h2
  induction h2 with
  | nil => cases hs
  | cons hab _ ih =>
    rcases List.mem_cons.1 hs with rfl | hs
    · exact hab.2
    · exact ih hs
theorem slAt_off {σ : Store} {sz : Nat} {a : AV} {els : List (List AV)} (h : SlAt σ sz a els) : ∀ r v i n, a = .sl r v i n → ¬ r = σ.length := by
  intro r v i n e he
  rcases h.cases with ⟨rfl, _⟩ | ⟨r', v', i', n', row, rfl, hr, _⟩
  · cases e
  · cases e
    have := rowAt_lt hr
    omega
abbrev tW (m : TokM) : List UInt8 := tokT m.kind m.text
abbrev tB (m : TokM) : Bool := tokB m.kind m.text
theorem tW_len {m : TokM} (h : m.text.length ≤ 1048576) : (tW m).length ≤ 2999990 := by
  simp only [tW, tokT]
  split
  · have := esc_len m.text
    simp only [quoteM, List.length_cons, List.length_append, List.length_nil]; omega
  · omega
theorem implJoin_loop {R : Type} {q : Nat} (hX : LibX X) (l : List TokM) (al : AV) (hl : l.length ≤ 1000) (hoff : ∀ r v i n, al = .sl r v i n → ¬ r = q) (hok : ∀ s ∈ l, I64 s.kind ∧ I64 s.place ∧ LenOk s.text.length) (hsz : ∀ s ∈ l, s.text.length ≤ 1048576) : ∀ d i out a σ, i + d = l.length → out.length = i → SlAt σ 3 al (l.map TokM.cells) → OwR q σ 1 (cX out) a →
    ∃ σ', Fr (fun r => r = q) σ σ' ∧ (((l.drop i).all tB = true ∧ ∃ a', OwR q σ' 1 (cX (out ++ (l.drop i).map tW)) a' ∧ ∀ kk : Out → S → Option R, loopK (EE X) [4, 18, 19, 20] l_impl_JoinTokens_0 ([(4, .v a), (18, .v al), (19, .v (int l.length)), (20, .v (int i))], ⟨[], σ⟩) kk = kk (.exit 1) ([(4, .v a'), (18, .v al), (19, .v (int l.length)), (20, .v (int l.length)), (21, .v (.bool false))], ⟨[], σ'⟩)) ∨
      ((l.drop i).all tB = false ∧ ∀ kk : Out → S → Option R, loopK (EE X) [4, 18, 19, 20] l_impl_JoinTokens_0 ([(4, .v a), (18, .v al), (19, .v (int l.length)), (20, .v (int i))], ⟨[], σ⟩) kk = kk .ret ([(2, .v (.str [])), (3, .v (int 1))], ⟨[], σ'⟩))) := by
  intro d
  induction d with
  | zero =>
    intro i out a σ hi ho hs hw
    have e : i = l.length := by omega
    subst e
    refine ⟨σ, Fr.refl _ _, .inl ⟨by simp, a, by simpa using hw, fun kk => ?_⟩⟩
    rw [loopK_step l_impl_JoinTokens_0.eq_1]
    simp (config := {contextual := true, implicitDefEqProofs := false, maxSteps := 1000000}) only [
    ↓PR0, ↓PR1, ↓PR2, PO0, PO1, PO2, PO3, idxV_str, result, resOf, allSome, number, upd, List.map, Option.bind_some, Nat.reduceAdd, Nat.reduceSub, Nat.reduceLeDiff, Nat.reduceLT, Nat.reduceEqDiff, Nat.zero_add, Nat.add_zero, Nat.le_refl, 
    reduceIte, ne_eq, not_false_eq_true, and_self, true_and, and_true, reduceCtorEq, cond_true, cond_false, Int.lt_irrefl, decide_false]
  | succ d ih =>
    intro i out a σ hi ho hs hw
    have hlt : i < l.length := by omega
    have hlt' : (i : Int) < (l.length : Int) := by omega
    have hwi : IntKind.i64.wrap ((i : Int) + 1) = ((i + 1 : Nat) : Int) := wrap64 (by omega) (by omega)
    have hmem := List.getElem_mem hlt
    have hrs : ∀ {τ : Store}, SlAt τ 3 al (l.map TokM.cells) → RS RTok 3 τ l al := fun h => ⟨_, h, All2.map (fun s hs => ⟨rfl, hok s hs⟩)⟩
    obtain ⟨c1, ⟨hp', _⟩, ha1, ha2, _⟩ := (hrs hs).get (List.getElem?_eq_getElem hlt)
    subst hp'
    obtain ⟨s, σ1, t1, t3, t2⟩ := implTok_eq hX l[i].kind l[i].place l[i].text (hsz _ hmem) σ
    have hs1 := hs.frA t2 (fun _ _ _ _ _ h => h)
    have cA : ∀ cs, cellsOf (.agg cs) = some cs := fun _ => rfl
    rw [List.drop_eq_getElem_cons hlt, List.all_cons]
    cases hb : tokB l[i].kind l[i].text with
    | false =>
      rw [hb] at t1
      refine ⟨σ1, t2.weak (fun _ _ h => h.elim), .inr ⟨by simp only [tB, hb, Bool.false_and], fun kk => ?_⟩⟩
      rw [loopK_step l_impl_JoinTokens_0.eq_1]
      simp (config := {contextual := true, implicitDefEqProofs := false, maxSteps := 1000000}) only [
    ↓PR0, ↓PR1, ↓PR2, PO0, PO1, PO2, PO3, idxV_str, result, resOf, allSome, number, upd, List.map, Option.bind_some, Nat.reduceAdd, Nat.reduceSub, Nat.reduceLeDiff, Nat.reduceLT, Nat.reduceEqDiff, Nat.zero_add, Nat.add_zero, Nat.le_refl, 
    reduceIte, ne_eq, not_false_eq_true, and_self, true_and, and_true, reduceCtorEq, cond_true, cond_false, hlt', decide_true, ha1, ha2, cA, t1, Bool.not_false]
    | true =>
      rw [hb] at t1
      have hs2 := t3 hb
      subst hs2
      obtain ⟨a1, σ3, g1, g2, g3⟩ := (hw.pre t2).app 16 (cX [tW l[i]]) (by simp only [cX_len, List.length_cons, List.length_nil]; omega)
      rw [← cX_app] at g2
      have g1' : appV 1 16 σ1 [[.str (tokT l[i].kind l[i].text)]] a = some (a1, σ3) := g1
      have hel : ∀ (x : AV) M, elsOf M 1 (.ls [[x]]) = some [[x]] := fun _ _ => rfl
      obtain ⟨σ', f1, f2⟩ := ih (i + 1) (out ++ [tW l[i]]) a1 σ3 (by omega) (by simp [ho]) (hs1.frA g3 hoff) g2
      refine ⟨σ', (t2.weak (fun _ _ h => h.elim) |>.step g3).step f1, ?_⟩
      have step : ∀ kk : Out → S → Option R, loopK (EE X) [4, 18, 19, 20] l_impl_JoinTokens_0 ([(4, .v a), (18, .v al), (19, .v (int l.length)), (20, .v (int i))], ⟨[], σ⟩) kk = loopK (EE X) [4, 18, 19, 20] l_impl_JoinTokens_0 ([(4, .v a1), (18, .v al), (19, .v (int l.length)), (20, .v (int ((i + 1 : Nat) : Int)))], ⟨[], σ3⟩) kk := by
        intro kk
        rw [loopK_step l_impl_JoinTokens_0.eq_1]
        simp (config := {contextual := true, implicitDefEqProofs := false, maxSteps := 1000000}) only [
    ↓PR0, ↓PR1, ↓PR2, PO0, PO1, PO2, PO3, idxV_str, result, resOf, allSome, number, upd, List.map, Option.bind_some, Nat.reduceAdd, Nat.reduceSub, Nat.reduceLeDiff, Nat.reduceLT, Nat.reduceEqDiff, Nat.zero_add, Nat.add_zero, Nat.le_refl, 
    reduceIte, ne_eq, not_false_eq_true, and_self, true_and, and_true, reduceCtorEq, cond_true, cond_false, hlt', decide_true, ha1, ha2, cA, t1, Bool.not_true, List.replicate_succ, List.replicate_zero, List.set_cons_zero, hel, g1', hwi]
      rcases f2 with ⟨h1, a', h2, h3⟩ | ⟨h1, h3⟩
      · refine .inl ⟨by simp only [tB, hb, Bool.true_and]; exact h1, a', by rw [List.map_cons, List.append_cons]; exact h2, fun kk => by rw [step kk]; exact h3 kk⟩
      · exact .inr ⟨by simp only [tB, hb, Bool.true_and]; exact h1, fun kk => by rw [step kk]; exact h3 kk⟩
end Go.X
