/- Tokens, compared, marked and held. -/
import Derived.Test.YtiiiciekknpoeaaDoorXD4
set_option linter.unusedVariables false
set_option linter.unusedSimpArgs false
set_option maxRecDepth 20000
namespace Go.X
open Go
variable {X : Call}

instance : BEq TokM := ⟨fun s t => s.kind == t.kind && s.place == t.place && s.text == t.text⟩
theorem TokM.refl (s : TokM) : (s == s) = true := by show (s.kind == s.kind && s.place == s.place && s.text == s.text) = true; simp
theorem TokM.reflS (l : List TokM) : (l == l) = true := by
  induction l with
  | nil => rfl
  | cons s l ih => show (s == s && l == l) = true; rw [TokM.refl, ih]; rfl
abbrev TokM.cells (s : TokM) : List AV := [int s.kind, int s.place, .str s.text]
theorem eqToken_eq : Eqs (EE X) f_laws_eqToken RTok := by
  intro σ s cs t cs' ⟨hc, _, _⟩ ⟨hc', _, _⟩
  subst hc; subst hc'
  show _ = some (AV.bool (s.kind == t.kind && s.place == t.place && s.text == t.text), σ)
  rw [EE, Ex_run C_laws_eqToken rfl]
  simp (config := {contextual := true, implicitDefEqProofs := false, maxSteps := 1000000}) only [
    ↓PR0, ↓PR1, ↓PR2, PO0, PO1, PO2, PO3, idxV_str, result, resOf, allSome, number, upd, List.map, Option.bind_some, Nat.reduceAdd, Nat.reduceSub, Nat.reduceLeDiff, Nat.reduceLT, Nat.reduceEqDiff, Nat.zero_add, Nat.add_zero, Nat.le_refl, 
    reduceIte, ne_eq, not_false_eq_true, and_self, true_and, and_true, reduceCtorEq, cond_true, cond_false, c_laws_eqToken, bne]
  cases s.kind == t.kind <;> cases s.place == t.place <;> cases s.text == t.text <;> rfl
theorem eqTokenS_eq : EqsS (EE X) f_laws_eqTokenS RTok 3 := eqS C_laws_eqTokenS eqToken_eq RTok.sized
/-- The token that a mark writes. -/
def mkTk (k : Nat) : TokM := ⟨k, ((k + 1 : Nat) : Int), mtext (k + 2)⟩
def mkT : Nat → Nat → List TokM
  | 0, _ => []
  | n + 1, k => mkTk k :: mkT n (k + 3)
theorem mkT_len : ∀ (n k : Nat), (mkT n k).length = n
  | 0, _ => rfl
  | n + 1, k => by simp [mkT, mkT_len n]
theorem take_set_succT {β : Type} (l : List β) (i : Nat) (x : β) (h : i < l.length) : (l.set i x).take (i + 1) = l.take i ++ [x] := by
  rw [List.take_add_one, List.take_set_of_le (Nat.le_refl _), List.getElem?_set_self h]
  rfl
theorem markTokenS_loop {R : Type} (a : AV) (len lo hi : Nat) (hlen : len ≤ 10000000) : ∀ (n i : Nat) (k : Nat) (σ : Store) (els : List (List AV)), n = len - i → i ≤ len → els.length = len → (∀ (i : Nat) (cs : List AV), els[i]? = some cs → cs.length = 3) → k + 3 * n ≤ 100000000 →
    SlAt σ 3 a els → KA (ownK lo hi) σ a → ∃ σ', (∀ kk : Out → S → Option R, loopK (EE X) [0, 1, 5] l_laws_markTokenS_0 ([(0, .v a), (1, .v (int k)), (5, .v (int i))], ⟨[], σ⟩) kk = kk (.exit 0) ([(0, .v a), (1, .v (int ((k + 3 * n : Nat) : Int))), (5, .v (int len)), (9, .v (.bool false))], ⟨[], σ'⟩)) ∧
      SlAt σ' 3 a (els.take i ++ (mkT n k).map TokM.cells) ∧ KA (ownK lo hi) σ' a ∧ Same lo hi σ σ' := by
  intro n
  induction n with
  | zero =>
    intro i k σ els hn hi he hc h2 hs hk
    have e : i = len := by omega
    subst e
    refine ⟨σ, fun kk => ?_, by rw [List.take_of_length_le (by omega)]; simpa [mkT] using hs, hk, Same.refl _ _ _⟩
    rw [loopK_step l_laws_markTokenS_0.eq_1]
    simp (config := {contextual := true, implicitDefEqProofs := false, maxSteps := 1000000}) only [
    ↓PR0, ↓PR1, ↓PR2, PO0, PO1, PO2, PO3, idxV_str, result, resOf, allSome, number, upd, List.map, Option.bind_some, Nat.reduceAdd, Nat.reduceSub, Nat.reduceLeDiff, Nat.reduceLT, Nat.reduceEqDiff, Nat.zero_add, Nat.add_zero, Nat.le_refl, 
    reduceIte, ne_eq, not_false_eq_true, and_self, true_and, and_true, reduceCtorEq, cond_true, cond_false, hs.len, he, Int.lt_irrefl, decide_false, Nat.mul_zero, Nat.add_zero]
  | succ n ih =>
    intro i k σ els hn hi he hc h2 hs hk
    have hlt : i < els.length := by omega
    have hlt' : (i : Int) < (len : Int) := by omega
    have hw : IntKind.i64.wrap ((i : Int) + 1) = ((i + 1 : Nat) : Int) := wrap64 (by omega) (by omega)
    have hwk : IntKind.i64.wrap ((k : Int) + 1) = ((k + 1 : Nat) : Int) := by rw [wrap64 (by omega) (by omega)]; omega
    have hwk2 : IntKind.i64.wrap (((k + 1 : Nat) : Int) + 1) = ((k + 2 : Nat) : Int) := by rw [wrap64 (by omega) (by omega)]; omega
    have hwk3 : IntKind.i64.wrap (((k + 2 : Nat) : Int) + 1) = ((k + 3 : Nat) : Int) := by rw [wrap64 (by omega) (by omega)]; omega
    have hg := List.getElem?_eq_getElem hlt
    obtain ⟨x0, x1, x2, hx⟩ : ∃ x0 x1 x2, els[i] = [x0, x1, x2] := by
      have hl1 := hc i _ hg
      match els[i], hl1 with
      | [x0, x1, x2], _ => exact ⟨x0, x1, x2, rfl⟩
    rw [hx] at hg
    obtain ⟨σ1, hp1, hs1, hk1, hm1⟩ := put_own hs hk hg 0 [int k] (by simp)
    have hg1 : (els.set i (upd [x0, x1, x2] 0 [int k]))[i]? = some [int k, x1, x2] := by rw [List.getElem?_set_self hlt]; rfl
    obtain ⟨σ2, hp2, hs2, hk2, hm2⟩ := put_own hs1 hk1 hg1 1 [int ((k + 1 : Nat) : Int)] (by simp)
    rw [List.set_set] at hs2
    have hg2 : (els.set i (upd [int k, x1, x2] 1 [int ((k + 1 : Nat) : Int)]))[i]? = some [int k, int ((k + 1 : Nat) : Int), x2] := by rw [List.getElem?_set_self hlt]; rfl
    obtain ⟨σ3, hp3, hs3, hk3, hm3⟩ := put_own hs2 hk2 hg2 2 [.str (mtext (k + 2))] (by simp)
    rw [List.set_set] at hs3
    have hu : upd [int k, int ((k + 1 : Nat) : Int), x2] 2 [.str (mtext (k + 2))] = (mkTk k).cells := rfl
    rw [hu] at hs3
    have hl2 : i < (els.set i (upd [x0, x1, x2] 0 [int k])).length := by simpa using hlt
    have hl3 : i < (els.set i (upd [int k, x1, x2] 1 [int ((k + 1 : Nat) : Int)])).length := by simpa using hlt
    have i1 := hs.iadr .i64 hlt
    have i2 := hs1.iadr .i64 hl2
    have i3 := hs2.iadr .i64 hl3
    have f1 := fun o => hs.fadrQ hlt o
    have mt := fun s => markText_eq (X := X) (k + 2) (by omega) s
    obtain ⟨σ', r1, r2, r3, r4⟩ := ih (i + 1) (k + 3) σ3 (els.set i (mkTk k).cells) (by omega) (by omega) (by simpa using he) (fun j cs hj => by
      by_cases e : i = j
      · subst e; rw [List.getElem?_set_self hlt] at hj; cases hj; rfl
      · rw [List.getElem?_set_ne e] at hj; exact hc j cs hj) (by omega) hs3 hk3
    refine ⟨σ', fun kk => ?_, ?_, r3, hm1.trans (hm2.trans (hm3.trans r4))⟩
    · have ek : k + 3 * (n + 1) = k + 3 + 3 * n := by omega
      rw [ek, ← r1 kk, loopK_step l_laws_markTokenS_0.eq_1]
      simp (config := {contextual := true, implicitDefEqProofs := false, maxSteps := 1000000}) only [
    ↓PR0, ↓PR1, ↓PR2, PO0, PO1, PO2, PO3, idxV_str, result, resOf, allSome, number, upd, List.map, Option.bind_some, Nat.reduceAdd, Nat.reduceSub, Nat.reduceLeDiff, Nat.reduceLT, Nat.reduceEqDiff, Nat.zero_add, Nat.add_zero, Nat.le_refl, 
    reduceIte, ne_eq, not_false_eq_true, and_self, true_and, and_true, reduceCtorEq, cond_true, cond_false, hs.len, he, hlt', decide_true, i1, i2, i3, f1, hp1, hp2, hp3, mt, hw, hwk, hwk2, hwk3]
    · rw [take_set_succT els i (mkTk k).cells hlt] at r2
      simpa [mkT] using r2
theorem RTok.map_els {σ : Store} {l : List TokM} {els : List (List AV)} (h : All2 (RTok σ) l els) : els = l.map TokM.cells := (h.imp (fun m cs h => h.1)).eq_map
theorem mtext_len (k : Nat) : (mtext k).length ≤ k + 2 := by
  have key : ∀ (n k : Nat) (acc : List UInt8), (mgo n k acc).length ≤ acc.length + n := by
    intro n
    induction n with
    | zero => intro k acc; simp [mgo]
    | succ n ih =>
      intro k acc
      simp only [mgo]
      split
      · omega
      · have := ih (k / 10) (mdig k :: acc)
        simp only [List.length_cons] at this
        omega
  have := key k k []
  simp only [mtext]
  split
  · simp
  · simp only [List.length_nil, List.length_cons] at this ⊢; omega
theorem mkT_ok : ∀ (n k : Nat), k + 3 * n ≤ 100000000 → ∀ s ∈ mkT n k, I64 s.kind ∧ I64 s.place ∧ LenOk s.text.length
  | 0, _, _, s, hs => by cases hs
  | n + 1, k, h, s, hs => by
    rcases List.mem_cons.1 hs with rfl | hs
    · have := mtext_len (k + 2)
      refine ⟨by simp only [mkTk, I64]; omega, by simp only [mkTk, I64]; omega, by simp only [mkTk, LenOk]; omega⟩
    · exact mkT_ok n (k + 3) (by omega) s hs
theorem markTokenS_eq (σ : Store) (l : List TokM) (a : AV) (lo hi : Nat) (h : RSO (fun _ _ => RTok) 3 lo hi σ l a) (hn : l.length ≤ 1048576) (k : Nat) (h1 : k ≤ 1000000) :
    ∃ σ', EE X f_laws_markTokenS [a, int k] σ = some (int ((k + 3 * l.length : Nat) : Int), σ') ∧ RSO (fun _ _ => RTok) 3 lo hi σ' (mkT l.length k) a ∧ Same lo hi σ σ' := by
  obtain ⟨⟨els, hs, hall⟩, hk⟩ := h
  have he := RTok.map_els hall
  subst he
  obtain ⟨σ', r1, r2, r3, r4⟩ := markTokenS_loop (X := X) (R := AV × Store) a l.length lo hi (by omega) l.length 0 k σ _ (by omega) (by omega) (by simp) (by
    intro i cs hi'
    simp only [List.getElem?_map] at hi'
    cases hq : l[i]? with
    | none => rw [hq] at hi'; cases hi'
    | some x => rw [hq] at hi'; cases hi'; rfl) (by omega) hs hk
  refine ⟨σ', ?_, ⟨⟨_, by simpa using r2, All2.map (fun s hs => ⟨rfl, mkT_ok _ _ (by omega) s hs⟩)⟩, r3⟩, r4⟩
  simp only [Int.cast_ofNat_Int] at r1
  rw [EE, Ex_run C_laws_markTokenS rfl]
  simp (config := {contextual := true, implicitDefEqProofs := false, maxSteps := 1000000}) only [
    ↓PR0, ↓PR1, ↓PR2, PO0, PO1, PO2, PO3, idxV_str, result, resOf, allSome, number, upd, List.map, Option.bind_some, Nat.reduceAdd, Nat.reduceSub, Nat.reduceLeDiff, Nat.reduceLT, Nat.reduceEqDiff, Nat.zero_add, Nat.add_zero, Nat.le_refl, 
    reduceIte, ne_eq, not_false_eq_true, and_self, true_and, and_true, reduceCtorEq, cond_true, cond_false, c_laws_markTokenS, hs.cellsOf, r1]
theorem mkT_get : ∀ (n k i : Nat), i < n → (mkT n k)[i]? = some (mkTk (k + 3 * i))
  | 0, _, _, h => by omega
  | n + 1, k, 0, _ => by simp [mkT]
  | n + 1, k, i + 1, h => by
    have := mkT_get n (k + 3) i (by omega)
    simp only [mkT, List.getElem?_cons_succ, this, Option.some.injEq]
    congr 1; omega
theorem heldTokenS_loop {R : Type} (a : AV) (len k : Nat) (h1 : k ≤ 1000000) (hlen : len ≤ 1048576) (σ : Store) (hs : RS RTok 3 σ (mkT len k) a) (kk : Out → S → Option R) : ∀ (n i : Nat), n = len - i → i ≤ len →
    loopK (EE X) [0, 1, 5] l_laws_heldTokenS_0 ([(0, .v a), (1, .v (int ((k + 3 * i : Nat) : Int))), (5, .v (int i))], ⟨[], σ⟩) kk = kk (.exit 0) ([(0, .v a), (1, .v (int ((k + 3 * len : Nat) : Int))), (5, .v (int len)), (9, .v (.bool false))], ⟨[], σ⟩) := by
  intro n
  induction n with
  | zero =>
    intro i hn hi
    have e : i = len := by omega
    subst e
    rw [loopK_step l_laws_heldTokenS_0.eq_1]
    simp (config := {contextual := true, implicitDefEqProofs := false, maxSteps := 1000000}) only [
    ↓PR0, ↓PR1, ↓PR2, PO0, PO1, PO2, PO3, idxV_str, result, resOf, allSome, number, upd, List.map, Option.bind_some, Nat.reduceAdd, Nat.reduceSub, Nat.reduceLeDiff, Nat.reduceLT, Nat.reduceEqDiff, Nat.zero_add, Nat.add_zero, Nat.le_refl, 
    reduceIte, ne_eq, not_false_eq_true, and_self, true_and, and_true, reduceCtorEq, cond_true, cond_false, hs.len, mkT_len, Int.lt_irrefl, decide_false]
  | succ n ih =>
    intro i hn hi
    have hlt : i < len := by omega
    have hlt' : (i : Int) < (len : Int) := by omega
    have hw : IntKind.i64.wrap ((i : Int) + 1) = ((i + 1 : Nat) : Int) := wrap64 (by omega) (by omega)
    have hwk : IntKind.i64.wrap (((k + 3 * i : Nat) : Int) + 1) = ((k + 3 * i + 1 : Nat) : Int) := by rw [wrap64 (by omega) (by omega)]; omega
    have hwk2 : IntKind.i64.wrap (((k + 3 * i + 1 : Nat) : Int) + 1) = ((k + 3 * i + 2 : Nat) : Int) := by rw [wrap64 (by omega) (by omega)]; omega
    have hwk3 : IntKind.i64.wrap (((k + 3 * i + 2 : Nat) : Int) + 1) = ((k + 3 * (i + 1) : Nat) : Int) := by rw [wrap64 (by omega) (by omega)]; omega
    obtain ⟨cs, ⟨hp, _⟩, ha1, ha2⟩ := hs.get (mkT_get len k i hlt)
    subst hp
    have mt := fun s => markText_eq (X := X) (k + 3 * i + 2) (by omega) s
    have ih' := ih (i + 1) (by omega) (by omega)
    rw [loopK_step l_laws_heldTokenS_0.eq_1]
    simp (config := {contextual := true, implicitDefEqProofs := false, maxSteps := 1000000}) only [
    ↓PR0, ↓PR1, ↓PR2, PO0, PO1, PO2, PO3, idxV_str, result, resOf, allSome, number, upd, List.map, Option.bind_some, Nat.reduceAdd, Nat.reduceSub, Nat.reduceLeDiff, Nat.reduceLT, Nat.reduceEqDiff, Nat.zero_add, Nat.add_zero, Nat.le_refl, 
    reduceIte, ne_eq, not_false_eq_true, and_self, true_and, and_true, reduceCtorEq, cond_true, cond_false, hs.len, mkT_len, hlt', decide_true, ha1, ha2, mkTk, bne_self_eq_false, beq_self_eq_true, Bool.not_true, mt, hw, hwk, hwk2, hwk3, 
    evG_iadr, ih']
theorem heldTokenS_eq (σ : Store) (len k : Nat) (a : AV) (h1 : k ≤ 1000000) (hlen : len ≤ 1048576) (hs : RS RTok 3 σ (mkT len k) a) : EE X f_laws_heldTokenS [a, int k] σ = some (int ((k + 3 * len : Nat) : Int), σ) := by
  have r1 := fun kk : Out → S → Option (AV × Store) => heldTokenS_loop (X := X) a len k h1 hlen σ hs kk len 0 (by omega) (by omega)
  simp only [Int.cast_ofNat_Int, Nat.mul_zero, Nat.add_zero] at r1
  rw [EE, Ex_run C_laws_heldTokenS rfl]
  simp (config := {contextual := true, implicitDefEqProofs := false, maxSteps := 1000000}) only [
    ↓PR0, ↓PR1, ↓PR2, PO0, PO1, PO2, PO3, idxV_str, result, resOf, allSome, number, upd, List.map, Option.bind_some, Nat.reduceAdd, Nat.reduceSub, Nat.reduceLeDiff, Nat.reduceLT, Nat.reduceEqDiff, Nat.zero_add, Nat.add_zero, Nat.le_refl, 
    reduceIte, ne_eq, not_false_eq_true, and_self, true_and, and_true, reduceCtorEq, cond_true, cond_false, c_laws_heldTokenS, hs.cellsOf, r1]
end Go.X
