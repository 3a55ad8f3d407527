/- Slices of whole numbers, marked and held. -/
import Derived.Test.YtekcdlibmngkiaaXM1
set_option linter.unusedVariables false
set_option linter.unusedSimpArgs false
set_option maxRecDepth 20000
namespace Go.X
open Go
variable {X : Call}

def mkI : Nat → Int → List Int
  | 0, _ => []
  | n + 1, k => k :: mkI n (k + 1)
theorem mkI_len : ∀ (n : Nat) (k : Int), (mkI n k).length = n
  | 0, _ => rfl
  | n + 1, k => by simp [mkI, mkI_len n]

theorem take_set_succ {β : Type} (l : List β) (i : Nat) (x : β) (h : i < l.length) : (l.set i x).take (i + 1) = l.take i ++ [x] := by
  rw [List.take_add_one, List.take_set_of_le (Nat.le_refl _), List.getElem?_set_self h]
  rfl

theorem markIntS_loop {R : Type} (a : AV) (len lo hi : Nat) (hlen : len ≤ 100000000) (kk : Out → S → Option R) : ∀ (n i : Nat) (k : Int) (σ : Store) (els : List (List AV)), n = len - i → i ≤ len → els.length = len → (∀ (i : Nat) (cs : List AV), els[i]? = some cs → cs.length = 1) → -1000000000 ≤ k → k + n ≤ 1000000000 →
    SlAt σ 1 a els → KA (ownK lo hi) σ a → ∃ σ', loopK (EE X) [0, 1, 5] l_laws_markIntS_0 ([(0, .v a), (1, .v (int k)), (5, .v (int i))], ⟨[], σ⟩) kk = kk (.exit 0) ([(0, .v a), (1, .v (int (k + n))), (5, .v (int len)), (9, .v (.bool false))], ⟨[], σ'⟩) ∧
      SlAt σ' 1 a (els.take i ++ (mkI n k).map (fun x => [int x])) ∧ KA (ownK lo hi) σ' a ∧ Same lo hi σ σ' := by
  intro n
  induction n with
  | zero =>
    intro i k σ els hn hi he hc h1 h2 hs hk
    have e : i = len := by omega
    subst e
    refine ⟨σ, ?_, by rw [List.take_of_length_le (by omega)]; simpa [mkI] using hs, hk, Same.refl _ _ _⟩
    rw [loopK_step l_laws_markIntS_0.eq_1]
    simp (config := {contextual := true, implicitDefEqProofs := false, maxSteps := 1000000}) only [
    ↓PR0, ↓PR1, ↓PR2, PO0, PO1, PO2, PO3, idxV_str, result, resOf, allSome, number, upd, List.map, Option.bind_some, Nat.reduceAdd, Nat.reduceSub, Nat.reduceLeDiff, Nat.reduceLT, Nat.reduceEqDiff, Nat.zero_add, Nat.add_zero, Nat.le_refl, 
    reduceIte, ne_eq, not_false_eq_true, and_self, true_and, and_true, reduceCtorEq, cond_true, cond_false, hs.len, he, Int.lt_irrefl, decide_false, Int.cast_ofNat_Int, Int.add_zero]
  | succ n ih =>
    intro i k σ els hn hi he hc h1 h2 hs hk
    have hlt : i < els.length := by omega
    have hlt' : (i : Int) < (len : Int) := by omega
    have hw : IntKind.i64.wrap ((i : Int) + 1) = ((i + 1 : Nat) : Int) := wrap64 (by omega) (by omega)
    have hwk : IntKind.i64.wrap (k + 1) = k + 1 := wrap64 (by omega) (by omega)
    have hg := List.getElem?_eq_getElem hlt
    have hl1 := hc i _ hg
    obtain ⟨σ1, hp, hs1, hk1, hsm⟩ := put_own hs hk hg 0 [int k] (by simp [hl1])
    have hu : upd els[i] 0 [int k] = [int k] := by
      simp only [upd, List.take_zero, List.nil_append, List.length_cons, List.length_nil]
      rw [List.drop_of_length_le (by omega)]; rfl
    rw [hu] at hs1
    have hp' : ∀ bx, putAt ⟨bx, σ⟩ (.v (elP a i)) [int k] = some ⟨bx, σ1⟩ := fun bx => by rw [elP_Q]; exact hp bx
    have hia := hs.iadr .i64 hlt
    obtain ⟨σ', r1, r2, r3, r4⟩ := ih (i + 1) (k + 1) σ1 (els.set i [int k]) (by omega) (by omega) (by simpa using he) (fun j cs hj => by
      by_cases e : i = j
      · subst e; rw [List.getElem?_set_self hlt] at hj; cases hj; rfl
      · rw [List.getElem?_set_ne e] at hj; exact hc j cs hj) (by omega) (by omega) hs1 hk1
    refine ⟨σ', ?_, ?_, r3, hsm.trans r4⟩
    · have ek : k + ((n + 1 : Nat) : Int) = k + 1 + (n : Int) := by omega
      rw [ek, ← r1, loopK_step l_laws_markIntS_0.eq_1]
      simp (config := {contextual := true, implicitDefEqProofs := false, maxSteps := 1000000}) only [
    ↓PR0, ↓PR1, ↓PR2, PO0, PO1, PO2, PO3, idxV_str, result, resOf, allSome, number, upd, List.map, Option.bind_some, Nat.reduceAdd, Nat.reduceSub, Nat.reduceLeDiff, Nat.reduceLT, Nat.reduceEqDiff, Nat.zero_add, Nat.add_zero, Nat.le_refl, 
    reduceIte, ne_eq, not_false_eq_true, and_self, true_and, and_true, reduceCtorEq, cond_true, cond_false, hs.len, he, hlt', decide_true, hia, hp', hw, hwk]
    · rw [take_set_succ els i [int k] hlt] at r2
      simpa [mkI] using r2

theorem mkI_ok : ∀ (n : Nat) (k : Int), -1000000000 ≤ k → k + n ≤ 1000000000 → ∀ x ∈ mkI n k, I64 x
  | 0, _, _, _, x, hx => by cases hx
  | n + 1, k, h1, h2, x, hx => by
    rcases List.mem_cons.1 hx with rfl | hx
    · unfold I64; omega
    · exact mkI_ok n (k + 1) (by omega) (by omega) x hx
theorem mkI_get : ∀ (n : Nat) (k : Int) (i : Nat), i < n → (mkI n k)[i]? = some (k + i)
  | 0, _, _, h => by omega
  | n + 1, k, 0, _ => by simp [mkI]
  | n + 1, k, i + 1, h => by
    have := mkI_get n (k + 1) i (by omega)
    simp only [mkI, List.getElem?_cons_succ, this, Option.some.injEq]
    omega

theorem RS.els1 {emb : Int → AV} {ok : Int → Prop} {σ : Store} {l : List Int} {a : AV} (h : RS (RP emb ok) 1 σ l a) : SlAt σ 1 a (l.map fun x => [emb x]) := by
  obtain ⟨els, h1, h2⟩ := h
  have : els = l.map fun x => [emb x] := (h2.imp (fun m cs h => h.1)).eq_map
  rw [← this]; exact h1
theorem RS.of1 {emb : Int → AV} {ok : Int → Prop} {σ : Store} {l : List Int} {a : AV} (h : SlAt σ 1 a (l.map fun x => [emb x])) (ho : ∀ x ∈ l, ok x) : RS (RP emb ok) 1 σ l a :=
  ⟨_, h, All2.map (fun x hx => ⟨rfl, ho x hx⟩)⟩

theorem markIntS_eq (σ : Store) (l : List Int) (a : AV) (lo hi : Nat) (h : RSO (fun _ _ => RI) 1 lo hi σ l a) (hn : l.length ≤ 100000000) (k : Int) (h0 : 0 ≤ k) (h1 : k ≤ 100000000) :
    ∃ σ', EE X f_laws_markIntS [a, int k] σ = some (int (k + l.length), σ') ∧ RSO (fun _ _ => RI) 1 lo hi σ' (mkI l.length k) a ∧ Same lo hi σ σ' := by
  have hs := h.1.els1
  obtain ⟨σ', r1, r2, r3, r4⟩ := markIntS_loop (X := X) (R := AV × Store) a l.length lo hi hn (blkK 0 (seqK (EE X) (.seq (.reg [op 18 (.mv (.t 1)), op 4 (.mv (.t 18))] [4] none) .ret) (finK [.t 4] false σ))) l.length 0 k σ (l.map fun x => [int x]) (by omega) (by omega) (by simp) (by
    intro i cs hi'
    simp only [List.getElem?_map] at hi'
    cases hq : l[i]? with
    | none => rw [hq] at hi'; cases hi'
    | some x => rw [hq] at hi'; cases hi'; rfl) (by omega) (by omega) hs h.2
  refine ⟨σ', ?_, ⟨RS.of1 (by simpa using r2) (mkI_ok _ _ (by omega) (by omega)), r3⟩, r4⟩
  rw [EE, Ex_run C_laws_markIntS rfl]
  simp (config := {contextual := true, implicitDefEqProofs := false, maxSteps := 1000000}) only [
    ↓PR0, ↓PR1, ↓PR2, PO0, PO1, PO2, PO3, idxV_str, result, resOf, allSome, number, upd, List.map, Option.bind_some, Nat.reduceAdd, Nat.reduceSub, Nat.reduceLeDiff, Nat.reduceLT, Nat.reduceEqDiff, Nat.zero_add, Nat.add_zero, Nat.le_refl, 
    reduceIte, ne_eq, not_false_eq_true, and_self, true_and, and_true, reduceCtorEq, cond_true, cond_false, c_laws_markIntS, hs.cellsOf]
  refine r1.trans ?_
  simp (config := {contextual := true, implicitDefEqProofs := false, maxSteps := 1000000}) only [
    ↓PR0, ↓PR1, ↓PR2, PO0, PO1, PO2, PO3, idxV_str, result, resOf, allSome, number, upd, List.map, Option.bind_some, Nat.reduceAdd, Nat.reduceSub, Nat.reduceLeDiff, Nat.reduceLT, Nat.reduceEqDiff, Nat.zero_add, Nat.add_zero, Nat.le_refl, 
    reduceIte, ne_eq, not_false_eq_true, and_self, true_and, and_true, reduceCtorEq, cond_true, cond_false]

theorem heldIntS_loop {R : Type} (a : AV) (len : Nat) (k : Int) (h0 : 0 ≤ k) (h1 : k ≤ 100000000) (hlen : len ≤ 100000000) (σ : Store) (hs : RS RI 1 σ (mkI len k) a) (kk : Out → S → Option R) : ∀ (n i : Nat), n = len - i → i ≤ len →
    loopK (EE X) [0, 1, 5] l_laws_heldIntS_0 ([(0, .v a), (1, .v (int (k + i))), (5, .v (int i))], ⟨[], σ⟩) kk = kk (.exit 0) ([(0, .v a), (1, .v (int (k + len))), (5, .v (int len)), (9, .v (.bool false))], ⟨[], σ⟩) := by
  intro n
  induction n with
  | zero =>
    intro i hn hi
    have e : i = len := by omega
    subst e
    rw [loopK_step l_laws_heldIntS_0.eq_1]
    simp (config := {contextual := true, implicitDefEqProofs := false, maxSteps := 1000000}) only [
    ↓PR0, ↓PR1, ↓PR2, PO0, PO1, PO2, PO3, idxV_str, result, resOf, allSome, number, upd, List.map, Option.bind_some, Nat.reduceAdd, Nat.reduceSub, Nat.reduceLeDiff, Nat.reduceLT, Nat.reduceEqDiff, Nat.zero_add, Nat.add_zero, Nat.le_refl, 
    reduceIte, ne_eq, not_false_eq_true, and_self, true_and, and_true, reduceCtorEq, cond_true, cond_false, hs.len, mkI_len, Int.lt_irrefl, decide_false]
  | succ n ih =>
    intro i hn hi
    have hlt : i < len := by omega
    have hlt' : (i : Int) < (len : Int) := by omega
    have hw : IntKind.i64.wrap ((i : Int) + 1) = ((i + 1 : Nat) : Int) := wrap64 (by omega) (by omega)
    have hwk : IntKind.i64.wrap (k + (i : Int) + 1) = k + ((i + 1 : Nat) : Int) := by rw [wrap64 (by omega) (by omega)]; omega
    obtain ⟨cs, ⟨hp, _⟩, ha1, ha2⟩ := hs.get (mkI_get len k i hlt)
    subst hp
    have ih' := ih (i + 1) (by omega) (by omega)
    rw [loopK_step l_laws_heldIntS_0.eq_1]
    simp (config := {contextual := true, implicitDefEqProofs := false, maxSteps := 1000000}) only [
    ↓PR0, ↓PR1, ↓PR2, PO0, PO1, PO2, PO3, idxV_str, result, resOf, allSome, number, upd, List.map, Option.bind_some, Nat.reduceAdd, Nat.reduceSub, Nat.reduceLeDiff, Nat.reduceLT, Nat.reduceEqDiff, Nat.zero_add, Nat.add_zero, Nat.le_refl, 
    reduceIte, ne_eq, not_false_eq_true, and_self, true_and, and_true, reduceCtorEq, cond_true, cond_false, hs.len, mkI_len, hlt', decide_true, ha1, ha2, bne_self_eq_false, hw, hwk, ih']

theorem heldIntS_eq (σ : Store) (len : Nat) (a : AV) (hn : len ≤ 100000000) (k : Int) (h0 : 0 ≤ k) (h1 : k ≤ 100000000) (hs : RS RI 1 σ (mkI len k) a) :
    EE X f_laws_heldIntS [a, int k] σ = some (int (k + len), σ) := by
  have r1 := fun kk : Out → S → Option (AV × Store) => heldIntS_loop (X := X) a len k h0 h1 hn σ hs kk len 0 (by omega) (by omega)
  simp only [Int.cast_ofNat_Int, Int.add_zero] at r1
  rw [EE, Ex_run C_laws_heldIntS rfl]
  simp (config := {contextual := true, implicitDefEqProofs := false, maxSteps := 1000000}) only [
    ↓PR0, ↓PR1, ↓PR2, PO0, PO1, PO2, PO3, idxV_str, result, resOf, allSome, number, upd, List.map, Option.bind_some, Nat.reduceAdd, Nat.reduceSub, Nat.reduceLeDiff, Nat.reduceLT, Nat.reduceEqDiff, Nat.zero_add, Nat.add_zero, Nat.le_refl, 
    reduceIte, ne_eq, not_false_eq_true, and_self, true_and, and_true, reduceCtorEq, cond_true, cond_false, c_laws_heldIntS, hs.cellsOf, r1]

theorem eqIntS_eq : EqsS (EE X) f_laws_eqIntS RI 1 := eqP C_laws_eqIntS RI_neq
end Go.X
