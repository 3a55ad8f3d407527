/- Tokens joined: the law of JoinTokens. -/
import Derived.Test.YtfifhpmcbfeadaaGreatDoorXD7
import Derived.Test.YtfifhpmcbfeadaaGreatDoorXD11
import Derived.Lib.Join
set_option linter.unusedVariables false
set_option linter.unusedSimpArgs false
set_option maxRecDepth 20000
namespace Go.X
open Go Go.Lib
variable {X : Call}

/-- strings.Join, by its contract. -/
def JoinX (X : Call) : Prop := ∀ (σ : Store) (l : List (List UInt8)) (a : AV) (sep : List UInt8), RS RT 1 σ l a → l.length ≤ 1048576 → (Lib.join l sep).length ≤ 140737488355328 → EE X f_strings_Join [a, .str sep] σ = some (.str (Lib.join l sep), σ)
def cX (l : List (List UInt8)) : List (List AV) := l.map fun t => [.str t]
theorem cX_app (a b : List (List UInt8)) : cX (a ++ b) = cX a ++ cX b := by simp [cX]
theorem cX_len (l : List (List UInt8)) : (cX l).length = l.length := by simp [cX]
theorem rtok_cK {σ : Store} {l : List TokM} {a : AV} (h : RS RTok 3 σ l a) : SlAt σ 3 a (l.map TokM.cells) ∧ ∀ s ∈ l, I64 s.kind ∧ I64 s.place ∧ LenOk s.text.length := by
  obtain ⟨els, h1, h2⟩ := h
  have he := RTok.map_els h2
  subst he
  refine ⟨h1, fun s hs => ?_⟩
  clear h1
  generalize l.map TokM.cells = els at h2
  induction h2 with
  | nil => cases hs
  | cons hab _ ih =>
    rcases List.mem_cons.1 hs with rfl | hs
    · exact hab.2
    · exact ih hs
theorem slAt_off {σ : Store} {sz : Nat} {a : AV} {els : List (List AV)} (h : SlAt σ sz a els) : ∀ r v i n, a = .sl r v i n → ¬ r = σ.length := by
  intro r v i n e he
  rcases h.cases with ⟨rfl, _⟩ | ⟨r', v', i', n', row, rfl, hr, _⟩
  · cases e
  · cases e
    have := rowAt_lt hr
    omega
abbrev tW (m : TokM) : List UInt8 := tokT m.kind m.text
abbrev tB (m : TokM) : Bool := tokB m.kind m.text
theorem tW_len {m : TokM} (h : m.text.length ≤ 1048576) : (tW m).length ≤ 2999990 := by
  simp only [tW, tokT]
  split
  · have := esc_len m.text
    simp only [quoteM, List.length_cons, List.length_append, List.length_nil]; omega
  · omega
theorem l00Join_loop {R : Type} (σ : Store) (l : List (List UInt8)) (al : AV) (ha : RS RT 1 σ l al) (hl : l.length ≤ 1000) (hsz : ∀ t ∈ l, t.length ≤ 2999990) (kk : Out → S → Option R) : ∀ d i acc, i + d = l.length → acc.length ≤ i * 3000000 →
    loopK (EE X) [0, 1, 5, 6] l_spec_l00Join_0 ([(0, .v al), (1, .v (.str [32])), (5, .v (.str acc)), (6, .v (int i))], ⟨[], σ⟩) kk =
      kk (.exit 0) ([(0, .v al), (1, .v (.str [32])), (5, .v (.str (acc ++ (if i = 0 then Lib.join (l.drop i) [32] else joinTail [32] (l.drop i))))), (6, .v (int l.length)), (10, .v (.bool false))], ⟨[], σ⟩) := by
  have hlen := ha.len
  intro d
  induction d with
  | zero =>
    intro i acc hi hacc
    have e : i = l.length := by omega
    subst e
    have e2 : (if l.length = 0 then Lib.join (l.drop l.length) [32] else joinTail [32] (l.drop l.length)) = [] := by
      rw [List.drop_length]
      split <;> rfl
    rw [e2, List.append_nil, loopK_step l_spec_l00Join_0.eq_1]
    simp (config := {contextual := true, implicitDefEqProofs := false, maxSteps := 1000000}) only [
    ↓PR0, ↓PR1, ↓PR2, PO0, PO1, PO2, PO3, idxV_str, result, resOf, allSome, number, upd, List.map, Option.bind_some, Nat.reduceAdd, Nat.reduceSub, Nat.reduceLeDiff, Nat.reduceLT, Nat.reduceEqDiff, Nat.zero_add, Nat.add_zero, Nat.le_refl, 
    reduceIte, ne_eq, not_false_eq_true, and_self, true_and, and_true, reduceCtorEq, cond_true, cond_false, hlen, Int.lt_irrefl, decide_false]
  | succ d ih =>
    intro i acc hi hacc
    have hlt : i < l.length := by omega
    have hlt' : (i : Int) < (l.length : Int) := by omega
    have hwi : IntKind.i64.wrap ((i : Int) + 1) = ((i + 1 : Nat) : Int) := wrap64 (by omega) (by omega)
    obtain ⟨c1, ⟨hp', _⟩, ha1, ha2, _⟩ := ha.get (List.getElem?_eq_getElem hlt)
    subst hp'
    have hx := hsz _ (List.getElem_mem hlt)
    have hi1000 : i * 3000000 ≤ 3000000000 := by omega
    rw [List.drop_eq_getElem_cons hlt]
    by_cases h0 : i = 0
    · subst h0
      have h00 : ¬ ((0 : Int) < ((0 : Nat) : Int)) := by decide
      rw [Nat.zero_mul] at hacc
      clear hi1000
      have hc1 : acc.length + (l[0]).length ≤ 140737488355328 := by omega
      have ih' := ih 1 (acc ++ l[0]) (by omega) (by simp only [List.length_append]; omega)
      rw [if_neg (by decide)] at ih'
      have e3 : acc ++ (if 0 = 0 then Lib.join (l[0] :: l.drop (0 + 1)) [32] else joinTail [32] (l[0] :: l.drop (0 + 1))) = acc ++ l[0] ++ joinTail [32] (l.drop 1) := by
        rw [if_pos rfl, join_cons, List.append_assoc]
      rw [e3, ← ih', loopK_step l_spec_l00Join_0.eq_1]
      simp (config := {contextual := true, implicitDefEqProofs := false, maxSteps := 1000000}) only [
    ↓PR0, ↓PR1, ↓PR2, PO0, PO1, PO2, PO3, idxV_str, result, resOf, allSome, number, upd, List.map, Option.bind_some, Nat.reduceAdd, Nat.reduceSub, Nat.reduceLeDiff, Nat.reduceLT, Nat.reduceEqDiff, Nat.zero_add, Nat.add_zero, Nat.le_refl, 
    reduceIte, ne_eq, not_false_eq_true, and_self, true_and, and_true, reduceCtorEq, cond_true, cond_false, hlen, hlt', decide_true, h00, decide_false, ha1, ha2, binV_cat _ _ hc1, hwi]
    · have h00 : (0 : Int) < (i : Int) := by omega
      have hc0 : acc.length + ([32] : List UInt8).length ≤ 140737488355328 := by simp only [List.length_cons, List.length_nil]; omega
      have hc1 : (acc ++ [32]).length + (l[i]).length ≤ 140737488355328 := by simp only [List.length_append, List.length_cons, List.length_nil]; omega
      have ih' := ih (i + 1) (acc ++ [32] ++ l[i]) (by omega) (by simp only [List.length_append, List.length_cons, List.length_nil]; omega)
      rw [if_neg (by omega)] at ih'
      have e3 : acc ++ (if i = 0 then Lib.join (l[i] :: l.drop (i + 1)) [32] else joinTail [32] (l[i] :: l.drop (i + 1))) = acc ++ [32] ++ l[i] ++ joinTail [32] (l.drop (i + 1)) := by
        rw [if_neg h0]
        simp only [joinTail, List.map_cons, List.flatten_cons, List.append_assoc]
      rw [e3, ← ih', loopK_step l_spec_l00Join_0.eq_1]
      simp (config := {contextual := true, implicitDefEqProofs := false, maxSteps := 1000000}) only [
    ↓PR0, ↓PR1, ↓PR2, PO0, PO1, PO2, PO3, idxV_str, result, resOf, allSome, number, upd, List.map, Option.bind_some, Nat.reduceAdd, Nat.reduceSub, Nat.reduceLeDiff, Nat.reduceLT, Nat.reduceEqDiff, Nat.zero_add, Nat.add_zero, Nat.le_refl, 
    reduceIte, ne_eq, not_false_eq_true, and_self, true_and, and_true, reduceCtorEq, cond_true, cond_false, hlen, hlt', decide_true, h00, ha1, ha2, binV_cat _ _ hc0, binV_cat _ _ hc1, hwi]
theorem l00Join_eq (σ : Store) (l : List (List UInt8)) (al : AV) (ha : RS RT 1 σ l al) (hl : l.length ≤ 1000) (hsz : ∀ t ∈ l, t.length ≤ 2999990) : EE X f_spec_l00Join [al, .str [32]] σ = some (.str (Lib.join l [32]), σ) := by
  have h := fun kk : Out → S → Option (AV × Store) => l00Join_loop (X := X) σ l al ha hl hsz kk l.length 0 [] (by omega) (by simp)
  simp only [Int.cast_ofNat_Int, if_true, List.drop_zero, List.nil_append] at h
  rw [EE, Ex_run C_spec_l00Join rfl]
  simp (config := {contextual := true, implicitDefEqProofs := false, maxSteps := 1000000}) only [
    ↓PR0, ↓PR1, ↓PR2, PO0, PO1, PO2, PO3, idxV_str, result, resOf, allSome, number, upd, List.map, Option.bind_some, Nat.reduceAdd, Nat.reduceSub, Nat.reduceLeDiff, Nat.reduceLT, Nat.reduceEqDiff, Nat.zero_add, Nat.add_zero, Nat.le_refl, 
    reduceIte, ne_eq, not_false_eq_true, and_self, true_and, and_true, reduceCtorEq, cond_true, cond_false, c_spec_l00Join, ha.cellsOf, h]
end Go.X
