/- Trees and slices of texts, marked and held. -/
import Derived.Test.YtekcdlibmngkiaaXM2
import Derived.Test.YtekcdlibmngkiaaXN2
import Derived.Test.YtekcdlibmngkiaaY6
set_option linter.unusedVariables false
set_option linter.unusedSimpArgs false
set_option maxRecDepth 20000
namespace Go.X
open Go
variable {X : Call}

def mkT : Nat → Nat → List (List UInt8)
  | 0, _ => []
  | n + 1, k => mtext k :: mkT n (k + 1)
theorem mkT_len : ∀ n k, (mkT n k).length = n
  | 0, _ => rfl
  | n + 1, k => by simp [mkT, mkT_len n]
theorem mkT_get : ∀ (n k i : Nat), i < n → (mkT n k)[i]? = some (mtext (k + i))
  | 0, _, _, h => by omega
  | n + 1, k, 0, _ => by simp [mkT]
  | n + 1, k, i + 1, h => by
    have := mkT_get n (k + 1) i (by omega)
    simp only [mkT, List.getElem?_cons_succ, this]
    rw [Nat.add_right_comm, Nat.add_assoc]
theorem mtext_len (k : Nat) : (mtext k).length ≤ k + 2 := by
  have key : ∀ (n k : Nat) (acc : List UInt8), (mgo n k acc).length ≤ acc.length + n := by
    intro n
    induction n with
    | zero => intro k acc; simp [mgo]
    | succ n ih =>
      intro k acc
      simp only [mgo]
      split
      · omega
      · have := ih (k / 10) (mdig k :: acc)
        simp only [List.length_cons] at this
        omega
  have := key k k []
  simp only [mtext]
  split
  · simp
  · simp only [List.length_cons, List.length_nil] at this ⊢; omega
theorem mkT_ok : ∀ (n k : Nat), k + n ≤ 100000000 → ∀ t ∈ mkT n k, LenOk t.length
  | 0, _, _, t, ht => by cases ht
  | n + 1, k, h, t, ht => by
    rcases List.mem_cons.1 ht with rfl | ht
    · have := mtext_len k; unfold LenOk; omega
    · exact mkT_ok n (k + 1) (by omega) t ht
theorem markStr_loop {R : Type} (a : AV) (len lo hi : Nat) (hlen : len ≤ 10000000) : ∀ (n i : Nat) (k : Nat) (σ : Store) (els : List (List AV)), i + n = len → els.length = len → (∀ (i : Nat) (cs : List AV), els[i]? = some cs → cs.length = 1) → k + n ≤ 100000000 →
    SlAt σ 1 a els → KA (ownK lo hi) σ a → ∃ σ', Wr 1 lo hi σ σ' ∧ SlAt σ' 1 a (els.take i ++ (mkT n k).map (fun t => [.str t])) ∧ KA (ownK lo hi) σ' a ∧ ∀ kk : Out → S → Option R,
      loopK (EE X) [0, 1, 5] l_laws_markStringS_0 ([(0, .v a), (1, .v (int k)), (5, .v (int i))], ⟨[], σ⟩) kk = kk (.exit 0) ([(0, .v a), (1, .v (int ((k + n : Nat) : Int))), (5, .v (int len)), (9, .v (.bool false))], ⟨[], σ'⟩) := by
  intro n
  induction n with
  | zero =>
    intro i k σ els hi he hc h2 hs hk
    have e : i = len := by omega
    subst e
    refine ⟨σ, Wr.refl _ _ _ _, by rw [List.take_of_length_le (by omega)]; simpa [mkT] using hs, hk, fun kk => ?_⟩
    rw [loopK_step l_laws_markStringS_0.eq_1]
    simp (config := {contextual := true, implicitDefEqProofs := false, maxSteps := 1000000}) only [
    ↓PR0, ↓PR1, ↓PR2, PO0, PO1, PO2, PO3, idxV_str, result, resOf, allSome, number, upd, List.map, Option.bind_some, Nat.reduceAdd, Nat.reduceSub, Nat.reduceLeDiff, Nat.reduceLT, Nat.reduceEqDiff, Nat.zero_add, Nat.add_zero, Nat.le_refl, 
    reduceIte, ne_eq, not_false_eq_true, and_self, true_and, and_true, reduceCtorEq, cond_true, cond_false, hs.len, he, Int.lt_irrefl, decide_false, Nat.add_zero]
  | succ n ih =>
    intro i k σ els hi he hc h2 hs hk
    have hlt : i < els.length := by omega
    have hlt' : (i : Int) < (len : Int) := by omega
    have hw : IntKind.i64.wrap ((i : Int) + 1) = ((i + 1 : Nat) : Int) := wrap64 (by omega) (by omega)
    have hwk : IntKind.i64.wrap ((k : Int) + 1) = ((k + 1 : Nat) : Int) := wrap64 (by omega) (by omega)
    have hg := List.getElem?_eq_getElem hlt
    have hl1 := hc i _ hg
    have mt := fun s => markText_eq (X := X) k (by omega) s
    obtain ⟨σ1, hp, hs1, hk1, hsm⟩ := put_wr hs hk hg 0 [.str (mtext k)] (by simp [hl1])
    have hu : upd els[i] 0 [.str (mtext k)] = [.str (mtext k)] := by
      simp only [upd, List.take_zero, List.nil_append, List.length_cons, List.length_nil]
      rw [List.drop_of_length_le (by omega)]; rfl
    rw [hu] at hs1
    have hp' : ∀ bx, putAt ⟨bx, σ⟩ (.v (elP a i)) [.str (mtext k)] = some ⟨bx, σ1⟩ := fun bx => by rw [elP_Q]; exact hp bx
    have hia := hs.iadr .i64 hlt
    obtain ⟨σ', r1, r2, r3, r4⟩ := ih (i + 1) (k + 1) σ1 (els.set i [.str (mtext k)]) (by omega) (by simpa using he) (fun j cs hj => by
      by_cases e : i = j
      · subst e; rw [List.getElem?_set_self hlt] at hj; cases hj; rfl
      · rw [List.getElem?_set_ne e] at hj; exact hc j cs hj) (by omega) hs1 hk1
    refine ⟨σ', hsm.trans r1, ?_, r3, fun kk => ?_⟩
    · rw [take_set_succ els i [.str (mtext k)] hlt] at r2
      simpa [mkT] using r2
    · have ek : k + (n + 1) = k + 1 + n := by omega
      rw [ek, ← r4 kk, loopK_step l_laws_markStringS_0.eq_1]
      simp (config := {contextual := true, implicitDefEqProofs := false, maxSteps := 1000000}) only [
    ↓PR0, ↓PR1, ↓PR2, PO0, PO1, PO2, PO3, idxV_str, result, resOf, allSome, number, upd, List.map, Option.bind_some, Nat.reduceAdd, Nat.reduceSub, Nat.reduceLeDiff, Nat.reduceLT, Nat.reduceEqDiff, Nat.zero_add, Nat.add_zero, Nat.le_refl, 
    reduceIte, ne_eq, not_false_eq_true, and_self, true_and, and_true, reduceCtorEq, cond_true, cond_false, hs.len, he, hlt', decide_true, hia, mt, hp', hw, hwk]
theorem markInt_loop {R : Type} (a : AV) (len lo hi : Nat) (hlen : len ≤ 10000000) : ∀ (n i : Nat) (k : Nat) (σ : Store) (els : List (List AV)), i + n = len → els.length = len → (∀ (i : Nat) (cs : List AV), els[i]? = some cs → cs.length = 1) → k + n ≤ 100000000 →
    SlAt σ 1 a els → KA (ownK lo hi) σ a → ∃ σ', Wr 1 lo hi σ σ' ∧ ∀ kk : Out → S → Option R,
      loopK (EE X) [0, 1, 5] l_laws_markIntS_0 ([(0, .v a), (1, .v (int k)), (5, .v (int i))], ⟨[], σ⟩) kk = kk (.exit 0) ([(0, .v a), (1, .v (int ((k + n : Nat) : Int))), (5, .v (int len)), (9, .v (.bool false))], ⟨[], σ'⟩) := by
  intro n
  induction n with
  | zero =>
    intro i k σ els hi he hc h2 hs hk
    have e : i = len := by omega
    subst e
    refine ⟨σ, Wr.refl _ _ _ _, fun kk => ?_⟩
    rw [loopK_step l_laws_markIntS_0.eq_1]
    simp (config := {contextual := true, implicitDefEqProofs := false, maxSteps := 1000000}) only [
    ↓PR0, ↓PR1, ↓PR2, PO0, PO1, PO2, PO3, idxV_str, result, resOf, allSome, number, upd, List.map, Option.bind_some, Nat.reduceAdd, Nat.reduceSub, Nat.reduceLeDiff, Nat.reduceLT, Nat.reduceEqDiff, Nat.zero_add, Nat.add_zero, Nat.le_refl, 
    reduceIte, ne_eq, not_false_eq_true, and_self, true_and, and_true, reduceCtorEq, cond_true, cond_false, hs.len, he, Int.lt_irrefl, decide_false, Nat.add_zero]
  | succ n ih =>
    intro i k σ els hi he hc h2 hs hk
    have hlt : i < els.length := by omega
    have hlt' : (i : Int) < (len : Int) := by omega
    have hw : IntKind.i64.wrap ((i : Int) + 1) = ((i + 1 : Nat) : Int) := wrap64 (by omega) (by omega)
    have hwk : IntKind.i64.wrap ((k : Int) + 1) = ((k + 1 : Nat) : Int) := wrap64 (by omega) (by omega)
    have hg := List.getElem?_eq_getElem hlt
    have hl1 := hc i _ hg
    obtain ⟨σ1, hp, hs1, hk1, hsm⟩ := put_wr hs hk hg 0 [int k] (by simp [hl1])
    have hu : upd els[i] 0 [int k] = [int k] := by
      simp only [upd, List.take_zero, List.nil_append, List.length_cons, List.length_nil]
      rw [List.drop_of_length_le (by omega)]; rfl
    rw [hu] at hs1
    have hp' : ∀ bx, putAt ⟨bx, σ⟩ (.v (elP a i)) [int k] = some ⟨bx, σ1⟩ := fun bx => by rw [elP_Q]; exact hp bx
    have hia := hs.iadr .i64 hlt
    obtain ⟨σ', r1, r4⟩ := ih (i + 1) (k + 1) σ1 (els.set i [int k]) (by omega) (by simpa using he) (fun j cs hj => by
      by_cases e : i = j
      · subst e; rw [List.getElem?_set_self hlt] at hj; cases hj; rfl
      · rw [List.getElem?_set_ne e] at hj; exact hc j cs hj) (by omega) hs1 hk1
    refine ⟨σ', hsm.trans r1, fun kk => ?_⟩
    have ek : k + (n + 1) = k + 1 + n := by omega
    rw [ek, ← r4 kk, loopK_step l_laws_markIntS_0.eq_1]
    simp (config := {contextual := true, implicitDefEqProofs := false, maxSteps := 1000000}) only [
    ↓PR0, ↓PR1, ↓PR2, PO0, PO1, PO2, PO3, idxV_str, result, resOf, allSome, number, upd, List.map, Option.bind_some, Nat.reduceAdd, Nat.reduceSub, Nat.reduceLeDiff, Nat.reduceLT, Nat.reduceEqDiff, Nat.zero_add, Nat.add_zero, Nat.le_refl, 
    reduceIte, ne_eq, not_false_eq_true, and_self, true_and, and_true, reduceCtorEq, cond_true, cond_false, hs.len, he, hlt', decide_true, hia, hp', hw, hwk]
theorem markStrW (σ : Store) (n lo hi : Nat) (a : AV) (h : Sh1 lo hi σ n a) (hn : n ≤ 10000000) (k : Nat) (hk : k + n ≤ 100000000) : ∃ σ', EE X f_laws_markStringS [a, int k] σ = some (int ((k + n : Nat) : Int), σ') ∧ Wr 1 lo hi σ σ' := by
  obtain ⟨els, h1, h2, h3⟩ := h
  obtain ⟨h4, h5⟩ := sh1_get h2
  obtain ⟨σ', r1, r2, r3, r4⟩ := markStr_loop (X := X) (R := AV × Store) a n lo hi hn n 0 k σ els (by omega) h4 h5 hk h1 h3
  simp only [Int.cast_ofNat_Int] at r4
  refine ⟨σ', ?_, r1⟩
  rw [EE, Ex_run C_laws_markStringS rfl]
  simp (config := {contextual := true, implicitDefEqProofs := false, maxSteps := 1000000}) only [
    ↓PR0, ↓PR1, ↓PR2, PO0, PO1, PO2, PO3, idxV_str, result, resOf, allSome, number, upd, List.map, Option.bind_some, Nat.reduceAdd, Nat.reduceSub, Nat.reduceLeDiff, Nat.reduceLT, Nat.reduceEqDiff, Nat.zero_add, Nat.add_zero, Nat.le_refl, 
    reduceIte, ne_eq, not_false_eq_true, and_self, true_and, and_true, reduceCtorEq, cond_true, cond_false, c_laws_markStringS, r4]
theorem markIntW (σ : Store) (n lo hi : Nat) (a : AV) (h : Sh1 lo hi σ n a) (hn : n ≤ 10000000) (k : Nat) (hk : k + n ≤ 100000000) : ∃ σ', EE X f_laws_markIntS [a, int k] σ = some (int ((k + n : Nat) : Int), σ') ∧ Wr 1 lo hi σ σ' := by
  obtain ⟨els, h1, h2, h3⟩ := h
  obtain ⟨h4, h5⟩ := sh1_get h2
  obtain ⟨σ', r1, r4⟩ := markInt_loop (X := X) (R := AV × Store) a n lo hi hn n 0 k σ els (by omega) h4 h5 hk h1 h3
  simp only [Int.cast_ofNat_Int] at r4
  refine ⟨σ', ?_, r1⟩
  rw [EE, Ex_run C_laws_markIntS rfl]
  simp (config := {contextual := true, implicitDefEqProofs := false, maxSteps := 1000000}) only [
    ↓PR0, ↓PR1, ↓PR2, PO0, PO1, PO2, PO3, idxV_str, result, resOf, allSome, number, upd, List.map, Option.bind_some, Nat.reduceAdd, Nat.reduceSub, Nat.reduceLeDiff, Nat.reduceLT, Nat.reduceEqDiff, Nat.zero_add, Nat.add_zero, Nat.le_refl, 
    reduceIte, ne_eq, not_false_eq_true, and_self, true_and, and_true, reduceCtorEq, cond_true, cond_false, c_laws_markIntS, r4]
theorem markStringS_eq (σ : Store) (l : List (List UInt8)) (a : AV) (lo hi : Nat) (h : RSO (fun _ _ => RT) 1 lo hi σ l a) (hn : l.length ≤ 10000000) (k : Nat) (hk : k + l.length ≤ 100000000) :
    ∃ σ', EE X f_laws_markStringS [a, int k] σ = some (int ((k + l.length : Nat) : Int), σ') ∧ RSO (fun _ _ => RT) 1 lo hi σ' (mkT l.length k) a ∧ Same lo hi σ σ' := by
  obtain ⟨els, h1, h2, h3⟩ := h.sh1
  obtain ⟨h4, h5⟩ := sh1_get h2
  obtain ⟨σ', r1, r2, r3, r4⟩ := markStr_loop (X := X) (R := AV × Store) a l.length lo hi hn l.length 0 k σ els (by omega) h4 h5 hk h1 h3
  simp only [Int.cast_ofNat_Int] at r4
  refine ⟨σ', ?_, ⟨⟨_, by simpa using r2, All2.map (fun t ht => ⟨rfl, mkT_ok _ _ hk t ht⟩)⟩, r3⟩, r1.1⟩
  rw [EE, Ex_run C_laws_markStringS rfl]
  simp (config := {contextual := true, implicitDefEqProofs := false, maxSteps := 1000000}) only [
    ↓PR0, ↓PR1, ↓PR2, PO0, PO1, PO2, PO3, idxV_str, result, resOf, allSome, number, upd, List.map, Option.bind_some, Nat.reduceAdd, Nat.reduceSub, Nat.reduceLeDiff, Nat.reduceLT, Nat.reduceEqDiff, Nat.zero_add, Nat.add_zero, Nat.le_refl, 
    reduceIte, ne_eq, not_false_eq_true, and_self, true_and, and_true, reduceCtorEq, cond_true, cond_false, c_laws_markStringS, r4]
theorem heldStr_loop {R : Type} (a : AV) (len k : Nat) (hk : k + len ≤ 100000000) (σ : Store) (hs : RS RT 1 σ (mkT len k) a) (kk : Out → S → Option R) : ∀ (n i : Nat), i + n = len →
    loopK (EE X) [0, 1, 5] l_laws_heldStringS_0 ([(0, .v a), (1, .v (int ((k + i : Nat) : Int))), (5, .v (int i))], ⟨[], σ⟩) kk = kk (.exit 0) ([(0, .v a), (1, .v (int ((k + len : Nat) : Int))), (5, .v (int len)), (9, .v (.bool false))], ⟨[], σ⟩) := by
  intro n
  induction n with
  | zero =>
    intro i hi
    have e : i = len := by omega
    subst e
    rw [loopK_step l_laws_heldStringS_0.eq_1]
    simp (config := {contextual := true, implicitDefEqProofs := false, maxSteps := 1000000}) only [
    ↓PR0, ↓PR1, ↓PR2, PO0, PO1, PO2, PO3, idxV_str, result, resOf, allSome, number, upd, List.map, Option.bind_some, Nat.reduceAdd, Nat.reduceSub, Nat.reduceLeDiff, Nat.reduceLT, Nat.reduceEqDiff, Nat.zero_add, Nat.add_zero, Nat.le_refl, 
    reduceIte, ne_eq, not_false_eq_true, and_self, true_and, and_true, reduceCtorEq, cond_true, cond_false, hs.len, mkT_len, Int.lt_irrefl, decide_false]
  | succ n ih =>
    intro i hi
    have hlt : i < len := by omega
    have hlt' : (i : Int) < (len : Int) := by omega
    have hw : IntKind.i64.wrap ((i : Int) + 1) = ((i + 1 : Nat) : Int) := wrap64 (by omega) (by omega)
    have hwk : IntKind.i64.wrap (((k + i : Nat) : Int) + 1) = ((k + (i + 1) : Nat) : Int) := by rw [wrap64 (by omega) (by omega)]; omega
    have mt := fun s => markText_eq (X := X) (k + i) (by omega) s
    obtain ⟨cs, ⟨hp, _⟩, ha1, ha2, _⟩ := hs.get (mkT_get len k i hlt)
    subst hp
    have ih' := ih (i + 1) (by omega)
    rw [loopK_step l_laws_heldStringS_0.eq_1]
    simp (config := {contextual := true, implicitDefEqProofs := false, maxSteps := 1000000}) only [
    ↓PR0, ↓PR1, ↓PR2, PO0, PO1, PO2, PO3, idxV_str, result, resOf, allSome, number, upd, List.map, Option.bind_some, Nat.reduceAdd, Nat.reduceSub, Nat.reduceLeDiff, Nat.reduceLT, Nat.reduceEqDiff, Nat.zero_add, Nat.add_zero, Nat.le_refl, 
    reduceIte, ne_eq, not_false_eq_true, and_self, true_and, and_true, reduceCtorEq, cond_true, cond_false, hs.len, mkT_len, hlt', decide_true, ha1, ha2, mt, evG_iadr, bne_self_eq_false, hw, hwk, ih']
theorem heldStringS_eq (σ : Store) (len k : Nat) (a : AV) (hk : k + len ≤ 100000000) (hs : RS RT 1 σ (mkT len k) a) : EE X f_laws_heldStringS [a, int k] σ = some (int ((k + len : Nat) : Int), σ) := by
  have r1 := fun kk : Out → S → Option (AV × Store) => heldStr_loop (X := X) a len k hk σ hs kk len 0 (by omega)
  simp only [Int.cast_ofNat_Int, Nat.add_zero] at r1
  rw [EE, Ex_run C_laws_heldStringS rfl]
  simp (config := {contextual := true, implicitDefEqProofs := false, maxSteps := 1000000}) only [
    ↓PR0, ↓PR1, ↓PR2, PO0, PO1, PO2, PO3, idxV_str, result, resOf, allSome, number, upd, List.map, Option.bind_some, Nat.reduceAdd, Nat.reduceSub, Nat.reduceLeDiff, Nat.reduceLT, Nat.reduceEqDiff, Nat.zero_add, Nat.add_zero, Nat.le_refl, 
    reduceIte, ne_eq, not_false_eq_true, and_self, true_and, and_true, reduceCtorEq, cond_true, cond_false, c_laws_heldStringS, r1]

/-! ### Trees -/

def costN : List NodeM → Nat
  | [] => 0
  | m :: l => 3 + m.names.length + m.kids.length + costN l
/-- Cells that can be written. -/
def ShN (lo hi : Nat) (σ : Store) (m : NodeM) (cs : List AV) : Prop := ∃ c0 c1 c2 an ak, cs = [c0, c1, c2, an, ak] ∧ Sh1 lo hi σ m.names.length an ∧ Sh1 lo hi σ m.kids.length ak
theorem ShN.wr {sz lo hi lo' hi' : Nat} {σ σ' : Store} {m : NodeM} {cs : List AV} (h : ShN lo' hi' σ m cs) (k : Wr sz lo hi σ σ') : ShN lo' hi' σ' m cs := by
  obtain ⟨c0, c1, c2, an, ak, h1, h2, h3⟩ := h
  exact ⟨c0, c1, c2, an, ak, h1, h2.wr k, h3.wr k⟩
theorem All2.set {α β : Type} {P : α → β → Prop} {l : List α} {m : List β} (h : All2 P l m) : ∀ {i : Nat} {a : α} {b : β}, l[i]? = some a → P a b → All2 P l (m.set i b) := by
  induction h with
  | nil => intro i a b hi; simp at hi
  | cons h1 h2 ih =>
    intro i a b hi hp
    cases i with
    | zero => simp at hi; subst hi; exact .cons hp h2
    | succ i => exact .cons h1 (ih (by simpa using hi) hp)
theorem markNode_loop {R : Type} (a : AV) (l : List NodeM) (lo hi : Nat) (hlen : l.length ≤ 10000000) (hb : ∀ m ∈ l, m.names.length ≤ 10000000 ∧ m.kids.length ≤ 10000000) : ∀ (n i : Nat) (k : Nat) (σ : Store) (els : List (List AV)), i + n = l.length → k + costN (l.drop i) ≤ 100000000 →
    SlAt σ 5 a els → KA (ownK lo hi) σ a → All2 (ShN lo hi σ) l els → ∃ σ' k', Same lo hi σ σ' ∧ ∀ kk : Out → S → Option R,
      loopK (EE X) [0, 1, 5] l_laws_markNodeS_0 ([(0, .v a), (1, .v (int k)), (5, .v (int i))], ⟨[], σ⟩) kk = kk (.exit 0) ([(0, .v a), (1, .v (int (k' : Nat))), (5, .v (int l.length)), (9, .v (.bool false))], ⟨[], σ'⟩) := by
  intro n
  induction n with
  | zero =>
    intro i k σ els hin hk hs hka hall
    have e : i = l.length := by omega
    subst e
    have hl := hs.len
    rw [← hall.length] at hl
    refine ⟨σ, k, Same.refl _ _ _, fun kk => ?_⟩
    rw [loopK_step l_laws_markNodeS_0.eq_1]
    simp (config := {contextual := true, implicitDefEqProofs := false, maxSteps := 1000000}) only [
    ↓PR0, ↓PR1, ↓PR2, PO0, PO1, PO2, PO3, idxV_str, result, resOf, allSome, number, upd, List.map, Option.bind_some, Nat.reduceAdd, Nat.reduceSub, Nat.reduceLeDiff, Nat.reduceLT, Nat.reduceEqDiff, Nat.zero_add, Nat.add_zero, Nat.le_refl, 
    reduceIte, ne_eq, not_false_eq_true, and_self, true_and, and_true, reduceCtorEq, cond_true, cond_false, hl, Int.lt_irrefl, decide_false]
  | succ n ih =>
    intro i k σ els hin hk hs hka hall
    have hlt : i < l.length := by omega
    have hlt' : (i : Int) < (l.length : Int) := by omega
    have hll := hall.length
    have hle : i < els.length := by omega
    have hw : IntKind.i64.wrap ((i : Int) + 1) = ((i + 1 : Nat) : Int) := wrap64 (by omega) (by omega)
    rw [List.drop_eq_getElem_cons hlt, costN] at hk
    obtain ⟨hb1, hb2⟩ := hb _ (List.getElem_mem hlt)
    have w1 : IntKind.i64.wrap ((k : Int) + 1) = ((k + 1 : Nat) : Int) := wrap64 (by omega) (by omega)
    have w2 : IntKind.i64.wrap (((k + 1 : Nat) : Int) + 1) = ((k + 2 : Nat) : Int) := by rw [wrap64 (by omega) (by omega)]; omega
    have w3 : IntKind.i64.wrap (((k + 2 : Nat) : Int) + 1) = ((k + 3 : Nat) : Int) := by rw [wrap64 (by omega) (by omega)]; omega
    have mt := fun s => markText_eq (X := X) (k + 2) (by omega) s
    obtain ⟨cs, hg, c0, c1, c2, an, ak, rfl, _, _⟩ := hall.get (List.getElem?_eq_getElem hlt)
    -- the three fields
    obtain ⟨σ1, p1, s1, k1, m1⟩ := put_wr hs hka hg 0 [int k] (by simp)
    have g1 : (els.set i (upd [c0, c1, c2, an, ak] 0 [int k]))[i]? = some [int k, c1, c2, an, ak] := by rw [List.getElem?_set_self hle]; rfl
    obtain ⟨σ2, p2, s2, k2, m2⟩ := put_wr s1 k1 g1 1 [int ((k + 1 : Nat) : Int)] (by simp)
    rw [List.set_set] at s2
    have g2 : (els.set i (upd [int k, c1, c2, an, ak] 1 [int ((k + 1 : Nat) : Int)]))[i]? = some [int k, int ((k + 1 : Nat) : Int), c2, an, ak] := by rw [List.getElem?_set_self hle]; rfl
    obtain ⟨σ3, p3, s3, k3, m3⟩ := put_wr s2 k2 g2 2 [.str (mtext (k + 2))] (by simp)
    rw [List.set_set] at s3
    have hu : upd [int k, int ((k + 1 : Nat) : Int), c2, an, ak] 2 [.str (mtext (k + 2))] = [int k, int ((k + 1 : Nat) : Int), .str (mtext (k + 2)), an, ak] := rfl
    rw [hu] at s3
    have m123 := (m1.trans m2).trans m3
    have hall3 : All2 (ShN lo hi σ3) l (els.set i [int k, int ((k + 1 : Nat) : Int), .str (mtext (k + 2)), an, ak]) := by
      have hA := hall.imp (fun m cs h => h.wr m123)
      obtain ⟨cs', hg', d0, d1, d2, bn, bk, e, f1, f2⟩ := hA.get (List.getElem?_eq_getElem hlt)
      rw [hg] at hg'; cases hg'; cases e
      exact hA.set (List.getElem?_eq_getElem hlt) ⟨_, _, _, _, _, rfl, f1, f2⟩
    have g3 : (els.set i [int k, int ((k + 1 : Nat) : Int), .str (mtext (k + 2)), an, ak])[i]? = some [int k, int ((k + 1 : Nat) : Int), .str (mtext (k + 2)), an, ak] := by rw [List.getElem?_set_self hle]
    obtain ⟨cs', hg', d0, d1, d2, bn, bk, e, f1, f2⟩ := hall3.get (List.getElem?_eq_getElem hlt)
    rw [g3] at hg'; cases hg'; cases e
    -- names and kids
    obtain ⟨σ4, n1, n2⟩ := markStrW (X := X) σ3 _ lo hi an f1 hb1 (k + 3) (by omega)
    have s4 := n2.other (by decide) s3
    obtain ⟨σ5, q1, q2⟩ := markIntW (X := X) σ4 _ lo hi ak (f2.wr n2) hb2 (k + 3 + l[i].names.length) (by omega)
    have s5 := q2.other (by decide) s4
    have k5 := q2.ka (n2.ka k3)
    have hall5 := (hall3.imp (fun m cs h => h.wr n2)).imp (fun m cs h => h.wr q2)
    obtain ⟨σ', k', r1, r2⟩ := ih (i + 1) (k + 3 + l[i].names.length + l[i].kids.length) σ5 _ (by omega) (by omega) s5 k5 hall5
    have hl0 := hs.len
    rw [← hll] at hl0
    have i0 := hs.iadr .i64 hle
    have i1 := s1.iadr .i64 (i := i) (by simpa using hle)
    have i2 := s2.iadr .i64 (i := i) (by simpa using hle)
    have i3 := s3.iadr .i64 (i := i) (by simpa using hle)
    have i4 := s4.iadr .i64 (i := i) (by simpa using hle)
    have fq := fun o => hs.fadrQ hle o
    have pl3 := fun bx o => s3.placeQ bx g3 o
    have pl4 := fun bx o => s4.placeQ bx g3 o
    refine ⟨σ', k', m123.1.trans (n2.1.trans (q2.1.trans r1)), fun kk => ?_⟩
    rw [← r2 kk, loopK_step l_laws_markNodeS_0.eq_1]
    simp (config := {contextual := true, implicitDefEqProofs := false, maxSteps := 1000000}) only [
    ↓PR0, ↓PR1, ↓PR2, PO0, PO1, PO2, PO3, idxV_str, result, resOf, allSome, number, upd, List.map, Option.bind_some, Nat.reduceAdd, Nat.reduceSub, Nat.reduceLeDiff, Nat.reduceLT, Nat.reduceEqDiff, Nat.zero_add, Nat.add_zero, Nat.le_refl, 
    reduceIte, ne_eq, not_false_eq_true, and_self, true_and, and_true, reduceCtorEq, cond_true, cond_false, hl0, hlt', decide_true, i0, i1, i2, i3, i4, fq, p1, p2, p3, mt, w1, w2, w3, pl3, pl4, n1, q1, hw]
theorem costN_le : ∀ l : List NodeM, costN l ≤ 3 * l.length + sumS NodeM.size l
  | [] => Nat.le_refl _
  | m :: l => by have := costN_le l; simp only [costN, sumS, NodeM.size, List.length_cons]; omega
theorem RNodeO.shN {lo hi : Nat} {σ : Store} {m : NodeM} {cs : List AV} (h : RNodeO lo hi σ m cs) : ShN lo hi σ m cs := by
  obtain ⟨an, ak, rfl, h1, h2, _⟩ := h
  exact ⟨_, _, _, an, ak, rfl, h1.sh1, h2.sh1⟩
theorem markTree_eq (σ : Store) (m : TreeM) (cs : List AV) (lo hi : Nat) (h : RTreeO lo hi σ m cs) (hs : m.size ≤ 1048576) : ∃ σ' k', EE X f_laws_markTree [.agg cs, int 1] σ = some (int (k' : Nat), σ') ∧ Same lo hi σ σ' := by
  obtain ⟨a, rfl, ⟨⟨els, h1, h2⟩, h3⟩, hr, hl⟩ := h
  have hc := costN_le m.nodes
  simp only [TreeM.size] at hs
  have hb : ∀ x ∈ m.nodes, x.names.length ≤ 10000000 ∧ x.kids.length ≤ 10000000 := by
    intro x hx
    have := sumS_mem (size := NodeM.size) hx
    simp only [NodeM.size] at this
    omega
  obtain ⟨σ', k', r1, r2⟩ := markNode_loop (X := X) (R := AV × Store) a m.nodes lo hi (by omega) hb m.nodes.length 0 1 σ els (by omega) (by simp only [List.drop_zero]; omega) h1 h3 (h2.imp (fun m cs h => h.shN))
  simp only [Int.cast_ofNat_Int] at r2
  have ca := h1.cellsOf
  have key : EE X f_laws_markNodeS [a, int 1] σ = some (int (k' : Nat), σ') := by
    rw [EE, Ex_run C_laws_markNodeS rfl]
    simp (config := {contextual := true, implicitDefEqProofs := false, maxSteps := 1000000}) only [
    ↓PR0, ↓PR1, ↓PR2, PO0, PO1, PO2, PO3, idxV_str, result, resOf, allSome, number, upd, List.map, Option.bind_some, Nat.reduceAdd, Nat.reduceSub, Nat.reduceLeDiff, Nat.reduceLT, Nat.reduceEqDiff, Nat.zero_add, Nat.add_zero, Nat.le_refl, 
    reduceIte, ne_eq, not_false_eq_true, and_self, true_and, and_true, reduceCtorEq, cond_true, cond_false, c_laws_markNodeS, r2]
  refine ⟨σ', k', ?_, r1⟩
  rw [EE, Ex_run C_laws_markTree rfl]
  simp (config := {contextual := true, implicitDefEqProofs := false, maxSteps := 1000000}) only [
    ↓PR0, ↓PR1, ↓PR2, PO0, PO1, PO2, PO3, idxV_str, result, resOf, allSome, number, upd, List.map, Option.bind_some, Nat.reduceAdd, Nat.reduceSub, Nat.reduceLeDiff, Nat.reduceLT, Nat.reduceEqDiff, Nat.zero_add, Nat.add_zero, Nat.le_refl, 
    reduceIte, ne_eq, not_false_eq_true, and_self, true_and, and_true, reduceCtorEq, cond_true, cond_false, c_laws_markTree, ca, key]
end Go.X
