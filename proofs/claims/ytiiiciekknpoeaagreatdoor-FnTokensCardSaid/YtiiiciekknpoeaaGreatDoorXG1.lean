/- Drawn programs: that some text comes, of bounded length. -/
import Derived.Test.YtiiiciekknpoeaaGreatDoorXV0
import Derived.Test.YtiiiciekknpoeaaGreatDoorXK1
import Derived.Test.YtiiiciekknpoeaaGreatDoorXD2
import Derived.Test.YtiiiciekknpoeaaGreatDoorY6
set_option linter.unusedVariables false
set_option linter.unusedSimpArgs false
set_option maxRecDepth 20000
namespace Go.X
open Go Go.Lib
variable {X : Call}

/-- A text of at most B bytes, and the source of choices moved on. -/
def TQ (σ : Store) (p N B : Nat) (r : AV × Store) : Prop := ∃ t, r.1 = .str t ∧ t.length ≤ B ∧ Src r.2 p N ∧ Fr (fun q => q = p) σ r.2
abbrev TX (o : Option (AV × Store)) (σ : Store) (p N B : Nat) : Prop := Wp o (TQ σ p N B)
theorem TX.done {σ σ' : Store} {p N M B : Nat} {t : List UInt8} (hn : t.length ≤ B) (hs : Src σ' p M) (hM : M ≤ N) (hf : Fr (fun q => q = p) σ σ') : TX (some (.str t, σ')) σ p N B := ⟨_, rfl, t, rfl, hn, hs.more hM, hf⟩
theorem TX.step {o : Option (AV × Store)} {f : AV × Store → Option (AV × Store)} {σ σ1 : Store} {p M B1 : Nat} {Q : AV × Store → Prop} (h : TX o σ1 p M B1) (hB : B1 ≤ 1000000) (hf : Fr (fun q => q = p) σ σ1) (k : ∀ t σ', t.length ≤ B1 → BdN t 1 → Src σ' p M → Fr (fun q => q = p) σ σ' → Wp (f (.str t, σ')) Q) : Wp (th o f) Q := by
  obtain ⟨⟨v, σ'⟩, e, t, rfl, hb, hs, hf'⟩ := h
  rw [e, th_some]
  have hb' : t.length ≤ B1 := hb
  exact k t σ' hb (.of (by omega)) hs (hf.step hf')
theorem nextS {f : AV × Store → Option (AV × Store)} {σ σ1 : Store} {p M : Nat} {Q : AV × Store → Prop} (n : Nat) (hn : 1 ≤ n) (h : Src σ1 p M) (hM : M ≤ 900000) (hf : Fr (fun q => q = p) σ σ1) (k : ∀ (j : Nat) σ', j < n → Src σ' p (M + 3) → Fr (fun q => q = p) σ σ' → Wp (f (int j, σ')) Q) : Wp (th (EE X f_spec_l00Src_next [.ptr p 0 0 0, int n] σ1) f) Q := by
  obtain ⟨j, σ', e, a, b, s, g⟩ := next_eq (X := X) σ1 p M n h (by omega)
  obtain ⟨j, rfl⟩ := Int.eq_ofNat_of_zero_le a
  rw [e, th_some]
  exact k j σ' (by omega) s (hf.step g)
theorem chanceS {f : AV × Store → Option (AV × Store)} {σ σ1 : Store} {p M : Nat} {Q : AV × Store → Prop} (n : Nat) (hn : n ≤ 1000) (h : Src σ1 p M) (hM : M ≤ 900000) (hf : Fr (fun q => q = p) σ σ1) (k : ∀ (b : Bool) σ', Src σ' p (M + 3) → Fr (fun q => q = p) σ σ' → Wp (f (.bool b, σ')) Q) : Wp (th (EE X f_spec_l00Src_chance [.ptr p 0 0 0, int n] σ1) f) Q := by
  obtain ⟨b, σ', e, s, g⟩ := chance_eq (X := X) σ1 p M n h (by omega) (by omega)
  rw [e, th_some]
  exact k b σ' s (hf.step g)
def litOk (B : Nat) (els : List (List AV)) : Bool := els.all fun c => match c with | [.str t] => decide (t.length ≤ B) | _ => false
theorem litOk_els {B : Nat} {els : List (List AV)} (h : litOk B els = true) : ∃ L : List (List UInt8), els = L.map (fun t => [.str t]) ∧ ∀ t ∈ L, t.length ≤ B := by
  induction els with
  | nil => exact ⟨[], rfl, by simp⟩
  | cons c els ih =>
    simp only [litOk, List.all_cons, Bool.and_eq_true] at h
    obtain ⟨h1, h2⟩ := h
    obtain ⟨L, e, hL⟩ := ih h2
    split at h1
    · rename_i t
      refine ⟨t :: L, by rw [e]; rfl, fun x hx => ?_⟩
      rcases List.mem_cons.1 hx with rfl | hx
      · simpa using h1
      · exact hL x hx
    · simp at h1
theorem sl_off (σ : Store) {p n : Nat} (hp : p < σ.length) : Off (.sl σ.length 0 0 n) p := by
  intro r v i n e
  cases e
  omega
theorem pickL {σ : Store} {p N : Nat} {els : List (List AV)} (n B : Nat) (h : Src σ p N) (hN : N ≤ 900000) (ho : ∃ L : List (List UInt8), els = L.map (fun t => [.str t]) ∧ ∀ t ∈ L, t.length ≤ B) (hB : B ≤ 1000000) (hn : els.length = n) (hn2 : n ≤ 1000) (hn1 : 0 < n) :
    TX (EE X f_spec_l00Src_pick [.ptr p 0 0 0, .sl σ.length 0 0 n] (σ ++ [⟨els, 1, 0, .own⟩])) (σ ++ [⟨els, 1, 0, .own⟩]) p (N + 3) B := by
  obtain ⟨L, rfl, hL⟩ := ho
  rw [List.length_map] at hn
  subst hn
  have hp := h.lt
  obtain ⟨t, σ', e, m, s, g⟩ := pick_eq (X := X) _ p _ L _ (lits σ L (fun t ht => by have := hL t ht; unfold LenOk; omega)) (sl_off σ hp) (h.pre (Pre.app σ [⟨L.map (fun t => [.str t]), 1, 0, .own⟩])) (by omega) (by omega)
  refine ⟨_, e, t, rfl, ?_, s, g⟩
  rcases m with m | m
  · exact hL t m
  · subst m; cases hn1
/-- One of literals. -/
theorem pickS {f : AV × Store → Option (AV × Store)} {σ σ1 : Store} {p M : Nat} {els : List (List AV)} {Q : AV × Store → Prop} (n B : Nat) (h : Src σ1 p M) (hM : M ≤ 900000) (hf : Fr (fun q => q = p) σ σ1) (ho : litOk B els = true) (hB : B ≤ 1000000) (hn : els.length = n) (hn2 : n ≤ 1000) (hn1 : 0 < n) (k : ∀ t σ', t.length ≤ B → BdN t 1 → Src σ' p (M + 3) → Fr (fun q => q = p) σ σ' → Wp (f (.str t, σ')) Q) : Wp (th (EE X f_spec_l00Src_pick [.ptr p 0 0 0, .sl σ1.length 0 0 n] (σ1 ++ [⟨els, 1, 0, .own⟩])) f) Q :=
  (pickL n B h hM (litOk_els ho) hB hn hn2 hn1).step hB (hf.pre (Pre.app _ _)) k
theorem digS {f : AV × Store → Option (AV × Store)} {σ1 : Store} {j : Nat} {Q : AV × Store → Prop} (hj : j ≤ 9) (k : ∀ t : List UInt8, t.length ≤ 1 → BdN t 1 → Wp (f (.str t, σ1)) Q) : Wp (th (EE X f_spec_l00Digits [int j] σ1) f) Q := by
  rw [l00Digits_eq (X := X) j (by unfold I64; omega) σ1, th_some]
  have hl : (itoa (j : Int)).length ≤ 1 := by
    rw [itoa_nonneg, decDigits_length]
    exact nDigits_le 1 j (by omega) (by have : (10 : Nat) ^ 1 = 10 := rfl; omega)
  exact k _ hl (.of (by omega))
theorem op_eq (σ : Store) (p N : Nat) (h : Src σ p N) (hN : N ≤ 900000) : TX (EE X f_spec_l00Src_op [.ptr p 0 0 0] σ) σ p (N + 3) 2 := by
  rw [EE, Ex_run C_spec_l00Src_op rfl]
  simp (config := {contextual := true, implicitDefEqProofs := false, maxSteps := 1000000}) only [
    ↓PR0, ↓PR1, ↓PR2, PO0, PO1, PO2, PO3, idxV_str, result, resOf, allSome, number, upd, List.map, Option.bind_some, Nat.reduceAdd, Nat.reduceSub, Nat.reduceLeDiff, Nat.reduceLT, Nat.reduceEqDiff, Nat.zero_add, Nat.add_zero, Nat.le_refl, 
    reduceIte, ne_eq, not_false_eq_true, and_self, true_and, and_true, reduceCtorEq, cond_true, cond_false, c_spec_l00Src_op, List.replicate_succ, List.replicate_zero, List.set_cons_zero, List.set_cons_succ]
  refine pickS 7 2 h hN (Fr.refl _ _) (by decide) (by decide) rfl (by decide) (by decide) fun t σ' b _ s f => ?_
  simp (config := {contextual := true, implicitDefEqProofs := false, maxSteps := 1000000}) only [
    ↓PR0, ↓PR1, ↓PR2, PO0, PO1, PO2, PO3, idxV_str, result, resOf, allSome, number, upd, List.map, Option.bind_some, Nat.reduceAdd, Nat.reduceSub, Nat.reduceLeDiff, Nat.reduceLT, Nat.reduceEqDiff, Nat.zero_add, Nat.add_zero, Nat.le_refl, 
    reduceIte, ne_eq, not_false_eq_true, and_self, true_and, and_true, reduceCtorEq, cond_true, cond_false]
  exact TX.done b s (Nat.le_refl _) f
def eB : Nat → Nat
  | 0 => 10
  | d + 1 => 2 * eB d + 12
def eC : Nat → Nat
  | 0 => 12
  | d + 1 => 2 * eC d + 12
theorem eB_le {d : Nat} (h : d ≤ 2) : eB d ≤ 76 ∧ eC d ≤ 84 := by
  have : d = 0 ∨ d = 1 ∨ d = 2 := by omega
  rcases this with rfl | rfl | rfl <;> decide
/-- The names that may be drawn. -/
def Nms (σ : Store) (p : Nat) (a : AV) : Prop := ∃ names : List (List UInt8), RS RT 1 σ names a ∧ Off a p ∧ (∀ t ∈ names, t.length ≤ 4) ∧ names.length ≤ 10 ∧ names ≠ []
theorem Nms.fr {σ σ' : Store} {p : Nat} {a : AV} (h : Nms σ p a) (k : Fr (fun q => q = p) σ σ') : Nms σ' p a := by
  obtain ⟨names, h1, h2, h3⟩ := h
  exact ⟨names, RS.frA (P := fun (m : List UInt8) cs => cs = [.str m] ∧ LenOk m.length) h1 k h2, h2, h3⟩
theorem Nms.pick {f : AV × Store → Option (AV × Store)} {σ σ1 : Store} {p M : Nat} {a : AV} {Q : AV × Store → Prop} (hn : Nms σ1 p a) (h : Src σ1 p M) (hM : M ≤ 900000) (hf : Fr (fun q => q = p) σ σ1) (k : ∀ t σ', t.length ≤ 4 → BdN t 1 → Src σ' p (M + 3) → Fr (fun q => q = p) σ σ' → Wp (f (.str t, σ')) Q) : Wp (th (EE X f_spec_l00Src_pick [.ptr p 0 0 0, a] σ1) f) Q := by
  obtain ⟨names, h1, h2, h3, h4, h5⟩ := hn
  obtain ⟨t, σ', e, m, s, g⟩ := pick_eq (X := X) σ1 p M names a h1 h2 h (by omega) (by omega)
  rw [e, th_some]
  have := h3 t (m.resolve_right h5)
  exact k t σ' this (.of (by omega)) s (hf.step g)
theorem exprText_eq {a : AV} {p : Nat} : ∀ (d : Nat), d ≤ 2 → ∀ (σ : Store) (N : Nat), Nms σ p a → Src σ p N → N + eC d ≤ 800000 → TX (EE X f_spec_l00Src_exprText [.ptr p 0 0 0, a, int d] σ) σ p (N + eC d) (eB d) := by
  intro d
  induction d with
  | zero =>
    intro _ σ N hn hs hN
    rw [EE, Ex_run C_spec_l00Src_exprText rfl]
    simp (config := {contextual := true, implicitDefEqProofs := false, maxSteps := 1000000}) only [
    ↓PR0, ↓PR1, ↓PR2, PO0, PO1, PO2, PO3, idxV_str, result, resOf, allSome, number, upd, List.map, Option.bind_some, Nat.reduceAdd, Nat.reduceSub, Nat.reduceLeDiff, Nat.reduceLT, Nat.reduceEqDiff, Nat.zero_add, Nat.add_zero, Nat.le_refl, 
    reduceIte, ne_eq, not_false_eq_true, and_self, true_and, and_true, reduceCtorEq, cond_true, cond_false, c_spec_l00Src_exprText, Int.cast_ofNat_Int, beq_self_eq_true]
    refine nextS 6 (by decide) hs (by omega) (Fr.refl _ _) fun j σ3 hj s3 f3 => ?_
    simp (config := {contextual := true, implicitDefEqProofs := false, maxSteps := 1000000}) only [
    ↓PR0, ↓PR1, ↓PR2, PO0, PO1, PO2, PO3, idxV_str, result, resOf, allSome, number, upd, List.map, Option.bind_some, Nat.reduceAdd, Nat.reduceSub, Nat.reduceLeDiff, Nat.reduceLT, Nat.reduceEqDiff, Nat.zero_add, Nat.add_zero, Nat.le_refl, 
    reduceIte, ne_eq, not_false_eq_true, and_self, true_and, and_true, reduceCtorEq, cond_true, cond_false, List.replicate_succ, List.replicate_zero, List.set_cons_zero, List.set_cons_succ]
    refine Wp.br (fun _ => ?_) (fun _ => Wp.br (fun _ => ?_) (fun _ => Wp.br (fun _ => ?_) (fun _ => ?_)))
    · refine pickS 6 6 s3 (by omega) f3 (by decide) (by decide) rfl (by decide) (by decide) fun t σ4 b4 _ s4 f4 => ?_
      simp (config := {contextual := true, implicitDefEqProofs := false, maxSteps := 1000000}) only [
    ↓PR0, ↓PR1, ↓PR2, PO0, PO1, PO2, PO3, idxV_str, result, resOf, allSome, number, upd, List.map, Option.bind_some, Nat.reduceAdd, Nat.reduceSub, Nat.reduceLeDiff, Nat.reduceLT, Nat.reduceEqDiff, Nat.zero_add, Nat.add_zero, Nat.le_refl, 
    reduceIte, ne_eq, not_false_eq_true, and_self, true_and, and_true, reduceCtorEq, cond_true, cond_false]
      exact TX.done (by simp only [eB]; omega) s4 (by simp only [eC]; omega) f4
    · refine nextS 9 (by decide) s3 (by omega) f3 fun k σ4 hk s4 f4 => ?_
      simp (config := {contextual := true, implicitDefEqProofs := false, maxSteps := 1000000}) only [
    ↓PR0, ↓PR1, ↓PR2, PO0, PO1, PO2, PO3, idxV_str, result, resOf, allSome, number, upd, List.map, Option.bind_some, Nat.reduceAdd, Nat.reduceSub, Nat.reduceLeDiff, Nat.reduceLT, Nat.reduceEqDiff, Nat.zero_add, Nat.add_zero, Nat.le_refl, 
    reduceIte, ne_eq, not_false_eq_true, and_self, true_and, and_true, reduceCtorEq, cond_true, cond_false]
      refine digS (by omega) fun t b4 _ => ?_
      simp (config := {contextual := true, implicitDefEqProofs := false, maxSteps := 1000000}) only [
    ↓PR0, ↓PR1, ↓PR2, PO0, PO1, PO2, PO3, idxV_str, result, resOf, allSome, number, upd, List.map, Option.bind_some, Nat.reduceAdd, Nat.reduceSub, Nat.reduceLeDiff, Nat.reduceLT, Nat.reduceEqDiff, Nat.zero_add, Nat.add_zero, Nat.le_refl, 
    reduceIte, ne_eq, not_false_eq_true, and_self, true_and, and_true, reduceCtorEq, cond_true, cond_false]
      exact TX.done (by simp only [eB]; omega) s4 (by simp only [eC]; omega) f4
    · refine nextS 9 (by decide) s3 (by omega) f3 fun k σ4 hk s4 f4 => ?_
      simp (config := {contextual := true, implicitDefEqProofs := false, maxSteps := 1000000}) only [
    ↓PR0, ↓PR1, ↓PR2, PO0, PO1, PO2, PO3, idxV_str, result, resOf, allSome, number, upd, List.map, Option.bind_some, Nat.reduceAdd, Nat.reduceSub, Nat.reduceLeDiff, Nat.reduceLT, Nat.reduceEqDiff, Nat.zero_add, Nat.add_zero, Nat.le_refl, 
    reduceIte, ne_eq, not_false_eq_true, and_self, true_and, and_true, reduceCtorEq, cond_true, cond_false]
      refine digS (by omega) fun t b4 _ => ?_
      simp (config := {contextual := true, implicitDefEqProofs := false, maxSteps := 1000000}) only [
    ↓PR0, ↓PR1, ↓PR2, PO0, PO1, PO2, PO3, idxV_str, result, resOf, allSome, number, upd, List.map, Option.bind_some, Nat.reduceAdd, Nat.reduceSub, Nat.reduceLeDiff, Nat.reduceLT, Nat.reduceEqDiff, Nat.zero_add, Nat.add_zero, Nat.le_refl, 
    reduceIte, ne_eq, not_false_eq_true, and_self, true_and, and_true, reduceCtorEq, cond_true, cond_false]
      exact TX.done (by simp only [eB]; omega) s4 (by simp only [eC]; omega) f4
    · refine (hn.fr f3).pick s3 (by omega) f3 fun t σ4 b4 _ s4 f4 => ?_
      simp (config := {contextual := true, implicitDefEqProofs := false, maxSteps := 1000000}) only [
    ↓PR0, ↓PR1, ↓PR2, PO0, PO1, PO2, PO3, idxV_str, result, resOf, allSome, number, upd, List.map, Option.bind_some, Nat.reduceAdd, Nat.reduceSub, Nat.reduceLeDiff, Nat.reduceLT, Nat.reduceEqDiff, Nat.zero_add, Nat.add_zero, Nat.le_refl, 
    reduceIte, ne_eq, not_false_eq_true, and_self, true_and, and_true, reduceCtorEq, cond_true, cond_false]
      exact TX.done (by simp only [eB]; omega) s4 (by simp only [eC]; omega) f4
  | succ d ih =>
    intro hd σ N hn hs hN
    have hB := eB_le (d := d) (by omega)
    simp only [eC] at hN
    have hnz : ((((d + 1 : Nat)) : Int) == 0) = false := by rw [beq_eq_false_iff_ne]; omega
    have hw : IntKind.i64.wrap (((d + 1 : Nat) : Int) - 1) = (d : Int) := by rw [wrap64 (by omega) (by omega)]; omega
    rw [EE, Ex_run C_spec_l00Src_exprText rfl]
    simp (config := {contextual := true, implicitDefEqProofs := false, maxSteps := 1000000}) only [
    ↓PR0, ↓PR1, ↓PR2, PO0, PO1, PO2, PO3, idxV_str, result, resOf, allSome, number, upd, List.map, Option.bind_some, Nat.reduceAdd, Nat.reduceSub, Nat.reduceLeDiff, Nat.reduceLT, Nat.reduceEqDiff, Nat.zero_add, Nat.add_zero, Nat.le_refl, 
    reduceIte, ne_eq, not_false_eq_true, and_self, true_and, and_true, reduceCtorEq, cond_true, cond_false, c_spec_l00Src_exprText, hnz]
    refine chanceS 3 (by decide) hs (by omega) (Fr.refl _ _) fun b σ1 s1 f1 => ?_
    simp (config := {contextual := true, implicitDefEqProofs := false, maxSteps := 1000000}) only [
    ↓PR0, ↓PR1, ↓PR2, PO0, PO1, PO2, PO3, idxV_str, result, resOf, allSome, number, upd, List.map, Option.bind_some, Nat.reduceAdd, Nat.reduceSub, Nat.reduceLeDiff, Nat.reduceLT, Nat.reduceEqDiff, Nat.zero_add, Nat.add_zero, Nat.le_refl, 
    reduceIte, ne_eq, not_false_eq_true, and_self, true_and, and_true, reduceCtorEq, cond_true, cond_false, hw]
    refine Wp.br (fun _ => ?_) (fun _ => ?_)
    · refine nextS 6 (by decide) s1 (by omega) f1 fun j σ3 hj s3 f3 => ?_
      simp (config := {contextual := true, implicitDefEqProofs := false, maxSteps := 1000000}) only [
    ↓PR0, ↓PR1, ↓PR2, PO0, PO1, PO2, PO3, idxV_str, result, resOf, allSome, number, upd, List.map, Option.bind_some, Nat.reduceAdd, Nat.reduceSub, Nat.reduceLeDiff, Nat.reduceLT, Nat.reduceEqDiff, Nat.zero_add, Nat.add_zero, Nat.le_refl, 
    reduceIte, ne_eq, not_false_eq_true, and_self, true_and, and_true, reduceCtorEq, cond_true, cond_false, List.replicate_succ, List.replicate_zero, List.set_cons_zero, List.set_cons_succ]
      refine Wp.br (fun _ => ?_) (fun _ => Wp.br (fun _ => ?_) (fun _ => Wp.br (fun _ => ?_) (fun _ => ?_)))
      · refine pickS 6 6 s3 (by omega) f3 (by decide) (by decide) rfl (by decide) (by decide) fun t σ4 b4 _ s4 f4 => ?_
        simp (config := {contextual := true, implicitDefEqProofs := false, maxSteps := 1000000}) only [
    ↓PR0, ↓PR1, ↓PR2, PO0, PO1, PO2, PO3, idxV_str, result, resOf, allSome, number, upd, List.map, Option.bind_some, Nat.reduceAdd, Nat.reduceSub, Nat.reduceLeDiff, Nat.reduceLT, Nat.reduceEqDiff, Nat.zero_add, Nat.add_zero, Nat.le_refl, 
    reduceIte, ne_eq, not_false_eq_true, and_self, true_and, and_true, reduceCtorEq, cond_true, cond_false]
        exact TX.done (by simp only [eB]; omega) s4 (by simp only [eC]; omega) f4
      · refine nextS 9 (by decide) s3 (by omega) f3 fun k σ4 hk s4 f4 => ?_
        simp (config := {contextual := true, implicitDefEqProofs := false, maxSteps := 1000000}) only [
    ↓PR0, ↓PR1, ↓PR2, PO0, PO1, PO2, PO3, idxV_str, result, resOf, allSome, number, upd, List.map, Option.bind_some, Nat.reduceAdd, Nat.reduceSub, Nat.reduceLeDiff, Nat.reduceLT, Nat.reduceEqDiff, Nat.zero_add, Nat.add_zero, Nat.le_refl, 
    reduceIte, ne_eq, not_false_eq_true, and_self, true_and, and_true, reduceCtorEq, cond_true, cond_false]
        refine digS (by omega) fun t b4 _ => ?_
        simp (config := {contextual := true, implicitDefEqProofs := false, maxSteps := 1000000}) only [
    ↓PR0, ↓PR1, ↓PR2, PO0, PO1, PO2, PO3, idxV_str, result, resOf, allSome, number, upd, List.map, Option.bind_some, Nat.reduceAdd, Nat.reduceSub, Nat.reduceLeDiff, Nat.reduceLT, Nat.reduceEqDiff, Nat.zero_add, Nat.add_zero, Nat.le_refl, 
    reduceIte, ne_eq, not_false_eq_true, and_self, true_and, and_true, reduceCtorEq, cond_true, cond_false]
        exact TX.done (by simp only [eB]; omega) s4 (by simp only [eC]; omega) f4
      · refine nextS 9 (by decide) s3 (by omega) f3 fun k σ4 hk s4 f4 => ?_
        simp (config := {contextual := true, implicitDefEqProofs := false, maxSteps := 1000000}) only [
    ↓PR0, ↓PR1, ↓PR2, PO0, PO1, PO2, PO3, idxV_str, result, resOf, allSome, number, upd, List.map, Option.bind_some, Nat.reduceAdd, Nat.reduceSub, Nat.reduceLeDiff, Nat.reduceLT, Nat.reduceEqDiff, Nat.zero_add, Nat.add_zero, Nat.le_refl, 
    reduceIte, ne_eq, not_false_eq_true, and_self, true_and, and_true, reduceCtorEq, cond_true, cond_false]
        refine digS (by omega) fun t b4 _ => ?_
        simp (config := {contextual := true, implicitDefEqProofs := false, maxSteps := 1000000}) only [
    ↓PR0, ↓PR1, ↓PR2, PO0, PO1, PO2, PO3, idxV_str, result, resOf, allSome, number, upd, List.map, Option.bind_some, Nat.reduceAdd, Nat.reduceSub, Nat.reduceLeDiff, Nat.reduceLT, Nat.reduceEqDiff, Nat.zero_add, Nat.add_zero, Nat.le_refl, 
    reduceIte, ne_eq, not_false_eq_true, and_self, true_and, and_true, reduceCtorEq, cond_true, cond_false]
        exact TX.done (by simp only [eB]; omega) s4 (by simp only [eC]; omega) f4
      · refine (hn.fr f3).pick s3 (by omega) f3 fun t σ4 b4 _ s4 f4 => ?_
        simp (config := {contextual := true, implicitDefEqProofs := false, maxSteps := 1000000}) only [
    ↓PR0, ↓PR1, ↓PR2, PO0, PO1, PO2, PO3, idxV_str, result, resOf, allSome, number, upd, List.map, Option.bind_some, Nat.reduceAdd, Nat.reduceSub, Nat.reduceLeDiff, Nat.reduceLT, Nat.reduceEqDiff, Nat.zero_add, Nat.add_zero, Nat.le_refl, 
    reduceIte, ne_eq, not_false_eq_true, and_self, true_and, and_true, reduceCtorEq, cond_true, cond_false]
        exact TX.done (by simp only [eB]; omega) s4 (by simp only [eC]; omega) f4
    · refine (ih (by omega) σ1 _ (hn.fr f1) s1 (by omega)).step (by omega) f1 fun ta σ2 ba _ s2 f2 => ?_
      simp (config := {contextual := true, implicitDefEqProofs := false, maxSteps := 1000000}) only [
    ↓PR0, ↓PR1, ↓PR2, PO0, PO1, PO2, PO3, idxV_str, result, resOf, allSome, number, upd, List.map, Option.bind_some, Nat.reduceAdd, Nat.reduceSub, Nat.reduceLeDiff, Nat.reduceLT, Nat.reduceEqDiff, Nat.zero_add, Nat.add_zero, Nat.le_refl, 
    reduceIte, ne_eq, not_false_eq_true, and_self, true_and, and_true, reduceCtorEq, cond_true, cond_false, hw]
      refine (ih (by omega) σ2 _ (hn.fr f2) s2 (by omega)).step (by omega) f2 fun tb σ3 bb _ s3 f3 => ?_
      simp (config := {contextual := true, implicitDefEqProofs := false, maxSteps := 1000000}) only [
    ↓PR0, ↓PR1, ↓PR2, PO0, PO1, PO2, PO3, idxV_str, result, resOf, allSome, number, upd, List.map, Option.bind_some, Nat.reduceAdd, Nat.reduceSub, Nat.reduceLeDiff, Nat.reduceLT, Nat.reduceEqDiff, Nat.zero_add, Nat.add_zero, Nat.le_refl, 
    reduceIte, ne_eq, not_false_eq_true, and_self, true_and, and_true, reduceCtorEq, cond_true, cond_false]
      refine nextS 9 (by decide) s3 (by omega) f3 fun j σ4 hj s4 f4 => ?_
      simp (config := {contextual := true, implicitDefEqProofs := false, maxSteps := 1000000}) only [
    ↓PR0, ↓PR1, ↓PR2, PO0, PO1, PO2, PO3, idxV_str, result, resOf, allSome, number, upd, List.map, Option.bind_some, Nat.reduceAdd, Nat.reduceSub, Nat.reduceLeDiff, Nat.reduceLT, Nat.reduceEqDiff, Nat.zero_add, Nat.add_zero, Nat.le_refl, 
    reduceIte, ne_eq, not_false_eq_true, and_self, true_and, and_true, reduceCtorEq, cond_true, cond_false, binV_catB, List.replicate_succ, List.replicate_zero, List.set_cons_zero, List.set_cons_succ]
      have fin : ∀ (t : List UInt8) (σ' : Store) (M : Nat), t.length ≤ ta.length + tb.length + 10 → Src σ' p M → M ≤ N + 3 + eC d + eC d + 9 → Fr (fun q => q = p) σ σ' → TX (some (.str t, σ')) σ p (N + eC (d + 1)) (eB (d + 1)) :=
        fun t σ' M h1 h2 h3 h4 => TX.done (by simp only [eB]; omega) h2 (by simp only [eC]; omega) h4
      refine Wp.br (fun _ => ?_) (fun _ => Wp.br (fun _ => ?_) (fun _ => Wp.br (fun _ => ?_) (fun _ => Wp.br (fun _ => ?_) (fun _ => Wp.br (fun _ => ?_) (fun _ => Wp.br (fun _ => ?_) (fun _ => ?_))))))
      · exact fin _ _ _ (by simp only [List.length_append, List.length_cons, List.length_nil]; omega) s4 (by omega) f4
      · refine pickS 2 4 s4 (by omega) f4 (by decide) (by decide) rfl (by decide) (by decide) fun t σ5 b5 _ s5 f5 => ?_
        simp (config := {contextual := true, implicitDefEqProofs := false, maxSteps := 1000000}) only [
    ↓PR0, ↓PR1, ↓PR2, PO0, PO1, PO2, PO3, idxV_str, result, resOf, allSome, number, upd, List.map, Option.bind_some, Nat.reduceAdd, Nat.reduceSub, Nat.reduceLeDiff, Nat.reduceLT, Nat.reduceEqDiff, Nat.zero_add, Nat.add_zero, Nat.le_refl, 
    reduceIte, ne_eq, not_false_eq_true, and_self, true_and, and_true, reduceCtorEq, cond_true, cond_false, binV_catB]
        exact fin _ _ _ (by simp only [List.length_append, List.length_cons, List.length_nil]; omega) s5 (by omega) f5
      · refine pickS 2 4 s4 (by omega) f4 (by decide) (by decide) rfl (by decide) (by decide) fun t σ5 b5 _ s5 f5 => ?_
        simp (config := {contextual := true, implicitDefEqProofs := false, maxSteps := 1000000}) only [
    ↓PR0, ↓PR1, ↓PR2, PO0, PO1, PO2, PO3, idxV_str, result, resOf, allSome, number, upd, List.map, Option.bind_some, Nat.reduceAdd, Nat.reduceSub, Nat.reduceLeDiff, Nat.reduceLT, Nat.reduceEqDiff, Nat.zero_add, Nat.add_zero, Nat.le_refl, 
    reduceIte, ne_eq, not_false_eq_true, and_self, true_and, and_true, reduceCtorEq, cond_true, cond_false, binV_catB]
        exact fin _ _ _ (by simp only [List.length_append, List.length_cons, List.length_nil]; omega) s5 (by omega) f5
      · refine pickS 3 4 s4 (by omega) f4 (by decide) (by decide) rfl (by decide) (by decide) fun t σ5 b5 _ s5 f5 => ?_
        simp (config := {contextual := true, implicitDefEqProofs := false, maxSteps := 1000000}) only [
    ↓PR0, ↓PR1, ↓PR2, PO0, PO1, PO2, PO3, idxV_str, result, resOf, allSome, number, upd, List.map, Option.bind_some, Nat.reduceAdd, Nat.reduceSub, Nat.reduceLeDiff, Nat.reduceLT, Nat.reduceEqDiff, Nat.zero_add, Nat.add_zero, Nat.le_refl, 
    reduceIte, ne_eq, not_false_eq_true, and_self, true_and, and_true, reduceCtorEq, cond_true, cond_false, binV_catB]
        exact fin _ _ _ (by simp only [List.length_append, List.length_cons, List.length_nil]; omega) s5 (by omega) f5
      · refine pickS 3 4 s4 (by omega) f4 (by decide) (by decide) rfl (by decide) (by decide) fun t σ5 b5 _ s5 f5 => ?_
        simp (config := {contextual := true, implicitDefEqProofs := false, maxSteps := 1000000}) only [
    ↓PR0, ↓PR1, ↓PR2, PO0, PO1, PO2, PO3, idxV_str, result, resOf, allSome, number, upd, List.map, Option.bind_some, Nat.reduceAdd, Nat.reduceSub, Nat.reduceLeDiff, Nat.reduceLT, Nat.reduceEqDiff, Nat.zero_add, Nat.add_zero, Nat.le_refl, 
    reduceIte, ne_eq, not_false_eq_true, and_self, true_and, and_true, reduceCtorEq, cond_true, cond_false, binV_catB]
        exact fin _ _ _ (by simp only [List.length_append, List.length_cons, List.length_nil]; omega) s5 (by omega) f5
      · exact fin _ _ _ (by simp only [List.length_append, List.length_cons, List.length_nil]; omega) s4 (by omega) f4
      · refine (op_eq (X := X) σ4 p _ s4 (by omega)).step (by decide) f4 fun t σ5 b5 _ s5 f5 => ?_
        simp (config := {contextual := true, implicitDefEqProofs := false, maxSteps := 1000000}) only [
    ↓PR0, ↓PR1, ↓PR2, PO0, PO1, PO2, PO3, idxV_str, result, resOf, allSome, number, upd, List.map, Option.bind_some, Nat.reduceAdd, Nat.reduceSub, Nat.reduceLeDiff, Nat.reduceLT, Nat.reduceEqDiff, Nat.zero_add, Nat.add_zero, Nat.le_refl, 
    reduceIte, ne_eq, not_false_eq_true, and_self, true_and, and_true, reduceCtorEq, cond_true, cond_false, binV_catB]
        exact fin _ _ _ (by simp only [List.length_append, List.length_cons, List.length_nil]; omega) s5 (by omega) f5
/-- A statement's text comes. -/
def ST (X : Call) (p : Nat) (a : AV) (d C B : Nat) : Prop := ∀ (σ : Store) (N : Nat), Nms σ p a → Src σ p N → N ≤ 600000 - 100000 * d → TX (EE X f_spec_l00Src_stateText [.ptr p 0 0 0, a, int d] σ) σ p (N + C) B
theorem block_loop {a : AV} {p d C B : Nat} (hS : ST X p a d C B) (hB : B ≤ 100000) (hC : C ≤ 10000) {σ : Store} (hn : Nms σ p a) {Q : AV × Store → Prop} {kk : Out → S → Option (AV × Store)} : ∀ (n : Nat), n ≤ 2 → ∀ (σ1 : Store) (M : Nat) (out : List UInt8), out.length ≤ (2 - n) * (B + 1) + 10 → Src σ1 p M → M + n * C ≤ 600000 - 100000 * d → Fr (fun q => q = p) σ σ1 →
    (∀ out' σ2, out'.length ≤ out.length + n * (B + 1) → BdN out' 1 → Src σ2 p (M + n * C) → Fr (fun q => q = p) σ σ2 → Wp (kk (.exit 0) ([(0, .v (.ptr p 0 0 0)), (1, .v a), (2, .v (int d)), (7, .v (.str out')), (8, .v (int 0)), (12, .v (.bool false))], ⟨[], σ2⟩)) Q) →
    Wp (loopK (EE X) [0, 1, 2, 7, 8] l_spec_l00Src_blockText_0 ([(0, .v (.ptr p 0 0 0)), (1, .v a), (2, .v (int d)), (7, .v (.str out)), (8, .v (int n))], ⟨[], σ1⟩) kk) Q := by
  intro n
  induction n with
  | zero =>
    intro _ σ1 M out ho hs hM hf k
    have := k out σ1 (by omega) (.of (by simp only [Nat.sub_zero] at ho; omega)) (hs.more (by omega)) hf
    rw [loopK_step l_spec_l00Src_blockText_0.eq_1]
    simp (config := {contextual := true, implicitDefEqProofs := false, maxSteps := 1000000}) only [
    ↓PR0, ↓PR1, ↓PR2, PO0, PO1, PO2, PO3, idxV_str, result, resOf, allSome, number, upd, List.map, Option.bind_some, Nat.reduceAdd, Nat.reduceSub, Nat.reduceLeDiff, Nat.reduceLT, Nat.reduceEqDiff, Nat.zero_add, Nat.add_zero, Nat.le_refl, 
    reduceIte, ne_eq, not_false_eq_true, and_self, true_and, and_true, reduceCtorEq, cond_true, cond_false, Int.cast_ofNat_Int, Int.lt_irrefl, decide_false]
    exact this
  | succ n ih =>
    intro hn2 σ1 M out ho hs hM hf k
    have hpos : (0 : Int) < ((n + 1 : Nat) : Int) := by omega
    have hw : IntKind.i64.wrap (((n + 1 : Nat) : Int) - 1) = (n : Int) := by rw [wrap64 (by omega) (by omega)]; omega
    rw [loopK_step l_spec_l00Src_blockText_0.eq_1]
    simp (config := {contextual := true, implicitDefEqProofs := false, maxSteps := 1000000}) only [
    ↓PR0, ↓PR1, ↓PR2, PO0, PO1, PO2, PO3, idxV_str, result, resOf, allSome, number, upd, List.map, Option.bind_some, Nat.reduceAdd, Nat.reduceSub, Nat.reduceLeDiff, Nat.reduceLT, Nat.reduceEqDiff, Nat.zero_add, Nat.add_zero, Nat.le_refl, 
    reduceIte, ne_eq, not_false_eq_true, and_self, true_and, and_true, reduceCtorEq, cond_true, cond_false, hpos, decide_true]
    have hn1 : n = 0 ∨ n = 1 := by omega
    have ho' : out.length ≤ 1000000 := by rcases hn1 with rfl | rfl <;> omega
    refine (hS σ1 M (hn.fr hf) hs (by rcases hn1 with rfl | rfl <;> omega)).step (by omega) hf fun t σ2 b2 _ s2 f2 => ?_
    have := BdN.of ho'
    simp (config := {contextual := true, implicitDefEqProofs := false, maxSteps := 1000000}) only [
    ↓PR0, ↓PR1, ↓PR2, PO0, PO1, PO2, PO3, idxV_str, result, resOf, allSome, number, upd, List.map, Option.bind_some, Nat.reduceAdd, Nat.reduceSub, Nat.reduceLeDiff, Nat.reduceLT, Nat.reduceEqDiff, Nat.zero_add, Nat.add_zero, Nat.le_refl, 
    reduceIte, ne_eq, not_false_eq_true, and_self, true_and, and_true, reduceCtorEq, cond_true, cond_false, binV_catB, hw]
    refine ih (by omega) σ2 _ _ ?_ s2 (by rcases hn1 with rfl | rfl <;> omega) f2 fun out' σ3 h1 h2 h3 h4 => k out' σ3 ?_ h2 (h3.more ?_) h4
    · simp only [List.length_append, List.length_cons, List.length_nil]
      rcases hn1 with rfl | rfl <;> omega
    · simp only [List.length_append, List.length_cons, List.length_nil] at h1
      rcases hn1 with rfl | rfl <;> omega
    · rcases hn1 with rfl | rfl <;> omega
theorem blockText_of {a : AV} {p d C B : Nat} (hS : ST X p a d C B) (hB : B ≤ 100000) (hC : C ≤ 10000) (σ : Store) (N : Nat) (hn : Nms σ p a) (hs : Src σ p N) (hN : N + 3 * C + 10 ≤ 600000 - 100000 * d) : TX (EE X f_spec_l00Src_blockText [.ptr p 0 0 0, a, int d] σ) σ p (N + (2 * C + 3)) (2 * B + 5) := by
  rw [EE, Ex_run C_spec_l00Src_blockText rfl]
  simp (config := {contextual := true, implicitDefEqProofs := false, maxSteps := 1000000}) only [
    ↓PR0, ↓PR1, ↓PR2, PO0, PO1, PO2, PO3, idxV_str, result, resOf, allSome, number, upd, List.map, Option.bind_some, Nat.reduceAdd, Nat.reduceSub, Nat.reduceLeDiff, Nat.reduceLT, Nat.reduceEqDiff, Nat.zero_add, Nat.add_zero, Nat.le_refl, 
    reduceIte, ne_eq, not_false_eq_true, and_self, true_and, and_true, reduceCtorEq, cond_true, cond_false, c_spec_l00Src_blockText]
  refine nextS 3 (by decide) hs (by omega) (Fr.refl _ _) fun j σ1 hj s1 f1 => ?_
  simp (config := {contextual := true, implicitDefEqProofs := false, maxSteps := 1000000}) only [
    ↓PR0, ↓PR1, ↓PR2, PO0, PO1, PO2, PO3, idxV_str, result, resOf, allSome, number, upd, List.map, Option.bind_some, Nat.reduceAdd, Nat.reduceSub, Nat.reduceLeDiff, Nat.reduceLT, Nat.reduceEqDiff, Nat.zero_add, Nat.add_zero, Nat.le_refl, 
    reduceIte, ne_eq, not_false_eq_true, and_self, true_and, and_true, reduceCtorEq, cond_true, cond_false]
  have hj0 : j = 0 ∨ j = 1 ∨ j = 2 := by omega
  have hb1 : ([123, 32] : List UInt8).length ≤ (2 - j) * (B + 1) + 10 := by rcases hj0 with rfl | rfl | rfl <;> simp
  have hb2 : N + 3 + j * C ≤ 600000 - 100000 * d := by rcases hj0 with rfl | rfl | rfl <;> omega
  refine block_loop hS hB hC hn j (by omega) σ1 _ [123, 32] hb1 s1 hb2 f1 fun out' σ2 h1 h2 h3 h4 => ?_
  have hj' : j = 0 ∨ j = 1 ∨ j = 2 := by omega
  simp only [List.length_cons, List.length_nil] at h1
  simp (config := {contextual := true, implicitDefEqProofs := false, maxSteps := 1000000}) only [
    ↓PR0, ↓PR1, ↓PR2, PO0, PO1, PO2, PO3, idxV_str, result, resOf, allSome, number, upd, List.map, Option.bind_some, Nat.reduceAdd, Nat.reduceSub, Nat.reduceLeDiff, Nat.reduceLT, Nat.reduceEqDiff, Nat.zero_add, Nat.add_zero, Nat.le_refl, 
    reduceIte, ne_eq, not_false_eq_true, and_self, true_and, and_true, reduceCtorEq, cond_true, cond_false, binV_catB]
  refine TX.done ?_ h3 ?_ h4
  · simp only [List.length_append, List.length_cons, List.length_nil]
    rcases hj' with rfl | rfl | rfl <;> omega
  · rcases hj' with rfl | rfl | rfl <;> omega
def sB : Nat → Nat
  | 0 => 90
  | d + 1 => 2 * (2 * sB d + 5) + 140
def sC : Nat → Nat
  | 0 => 90
  | d + 1 => 2 * (2 * sC d + 3) + 100
theorem sB_le {d : Nat} (h : d ≤ 2) : sB d ≤ 3000 ∧ sC d ≤ 3000 := by
  have : d = 0 ∨ d = 1 ∨ d = 2 := by omega
  rcases this with rfl | rfl | rfl <;> decide
theorem stateText_eq {a : AV} {p : Nat} : ∀ (d : Nat), d ≤ 2 → ST X p a d (sC d) (sB d) := by
  intro d
  induction d with
  | zero =>
    intro _ σ N hn hs hN
    rw [EE, Ex_run C_spec_l00Src_stateText rfl]
    simp (config := {contextual := true, implicitDefEqProofs := false, maxSteps := 1000000}) only [
    ↓PR0, ↓PR1, ↓PR2, PO0, PO1, PO2, PO3, idxV_str, result, resOf, allSome, number, upd, List.map, Option.bind_some, Nat.reduceAdd, Nat.reduceSub, Nat.reduceLeDiff, Nat.reduceLT, Nat.reduceEqDiff, Nat.zero_add, Nat.add_zero, Nat.le_refl, 
    reduceIte, ne_eq, not_false_eq_true, and_self, true_and, and_true, reduceCtorEq, cond_true, cond_false, c_spec_l00Src_stateText]
    have e84 : eC 2 = 84 := by decide
    refine (exprText_eq (X := X) (a := a) (p := p) 2 (by decide) σ N hn hs (by omega)).step (by decide) (Fr.refl _ _) fun e σ1 be _ s1 f1 => ?_
    simp (config := {contextual := true, implicitDefEqProofs := false, maxSteps := 1000000}) only [
    ↓PR0, ↓PR1, ↓PR2, PO0, PO1, PO2, PO3, idxV_str, result, resOf, allSome, number, upd, List.map, Option.bind_some, Nat.reduceAdd, Nat.reduceSub, Nat.reduceLeDiff, Nat.reduceLT, Nat.reduceEqDiff, Nat.zero_add, Nat.add_zero, Nat.le_refl, 
    reduceIte, ne_eq, not_false_eq_true, and_self, true_and, and_true, reduceCtorEq, cond_true, cond_false, Int.cast_ofNat_Int, beq_self_eq_true, binV_catB, List.replicate_succ, List.replicate_zero, List.set_cons_zero, List.set_cons_succ]
    refine (pickL 3 86 s1 (by simp only [eC]; omega) ⟨[_, _, _], rfl, ?_⟩ (by decide) rfl (by decide) (by decide)).step (by decide) (f1.pre (Pre.app _ _)) fun t σ2 b2 _ s2 f2 => ?_
    · simp only [eB] at be
      intro t ht
      simp only [List.mem_cons, List.not_mem_nil, or_false] at ht
      rcases ht with rfl | rfl | rfl <;> simp only [List.length_append, List.length_cons, List.length_nil] <;> omega
    simp (config := {contextual := true, implicitDefEqProofs := false, maxSteps := 1000000}) only [
    ↓PR0, ↓PR1, ↓PR2, PO0, PO1, PO2, PO3, idxV_str, result, resOf, allSome, number, upd, List.map, Option.bind_some, Nat.reduceAdd, Nat.reduceSub, Nat.reduceLeDiff, Nat.reduceLT, Nat.reduceEqDiff, Nat.zero_add, Nat.add_zero, Nat.le_refl, 
    reduceIte, ne_eq, not_false_eq_true, and_self, true_and, and_true, reduceCtorEq, cond_true, cond_false]
    exact TX.done (by simp only [sB]; omega) s2 (by simp only [sC, eC]; omega) f2
  | succ d ih =>
    intro hd σ N hn hs hN
    have hsB := sB_le (d := d) (by omega)
    have hnz : ((((d + 1 : Nat)) : Int) == 0) = false := by rw [beq_eq_false_iff_ne]; omega
    have hw : IntKind.i64.wrap (((d + 1 : Nat) : Int) - 1) = (d : Int) := by rw [wrap64 (by omega) (by omega)]; omega
    have bt := fun σ N => blockText_of (X := X) (a := a) (p := p) (ih (by omega)) (by omega) (by omega) σ N
    rw [EE, Ex_run C_spec_l00Src_stateText rfl]
    simp (config := {contextual := true, implicitDefEqProofs := false, maxSteps := 1000000}) only [
    ↓PR0, ↓PR1, ↓PR2, PO0, PO1, PO2, PO3, idxV_str, result, resOf, allSome, number, upd, List.map, Option.bind_some, Nat.reduceAdd, Nat.reduceSub, Nat.reduceLeDiff, Nat.reduceLT, Nat.reduceEqDiff, Nat.zero_add, Nat.add_zero, Nat.le_refl, 
    reduceIte, ne_eq, not_false_eq_true, and_self, true_and, and_true, reduceCtorEq, cond_true, cond_false, c_spec_l00Src_stateText]
    have e84 : eC 2 = 84 := by decide
    refine (exprText_eq (X := X) (a := a) (p := p) 2 (by decide) σ N hn hs (by omega)).step (by decide) (Fr.refl _ _) fun e σ1 be _ s1 f1 => ?_
    have be' : e.length ≤ 76 := be
    have s1' : Src σ1 p (N + 84) := s1
    simp (config := {contextual := true, implicitDefEqProofs := false, maxSteps := 1000000}) only [
    ↓PR0, ↓PR1, ↓PR2, PO0, PO1, PO2, PO3, idxV_str, result, resOf, allSome, number, upd, List.map, Option.bind_some, Nat.reduceAdd, Nat.reduceSub, Nat.reduceLeDiff, Nat.reduceLT, Nat.reduceEqDiff, Nat.zero_add, Nat.add_zero, Nat.le_refl, 
    reduceIte, ne_eq, not_false_eq_true, and_self, true_and, and_true, reduceCtorEq, cond_true, cond_false, hnz, hw]
    refine (bt σ1 _ (hn.fr f1) s1' (by omega)).step (by omega) f1 fun b σ2 bb _ s2 f2 => ?_
    simp (config := {contextual := true, implicitDefEqProofs := false, maxSteps := 1000000}) only [
    ↓PR0, ↓PR1, ↓PR2, PO0, PO1, PO2, PO3, idxV_str, result, resOf, allSome, number, upd, List.map, Option.bind_some, Nat.reduceAdd, Nat.reduceSub, Nat.reduceLeDiff, Nat.reduceLT, Nat.reduceEqDiff, Nat.zero_add, Nat.add_zero, Nat.le_refl, 
    reduceIte, ne_eq, not_false_eq_true, and_self, true_and, and_true, reduceCtorEq, cond_true, cond_false]
    refine nextS 10 (by decide) s2 (by omega) f2 fun j σ3 hj s3 f3 => ?_
    simp (config := {contextual := true, implicitDefEqProofs := false, maxSteps := 1000000}) only [
    ↓PR0, ↓PR1, ↓PR2, PO0, PO1, PO2, PO3, idxV_str, result, resOf, allSome, number, upd, List.map, Option.bind_some, Nat.reduceAdd, Nat.reduceSub, Nat.reduceLeDiff, Nat.reduceLT, Nat.reduceEqDiff, Nat.zero_add, Nat.add_zero, Nat.le_refl, 
    reduceIte, ne_eq, not_false_eq_true, and_self, true_and, and_true, reduceCtorEq, cond_true, cond_false, binV_catB, hw]
    have fin : ∀ (t : List UInt8) (σ' : Store) (M : Nat), t.length ≤ 2 * (2 * sB d + 5) + 130 → Src σ' p M → M ≤ N + 2 * (2 * sC d + 3) + 100 → Fr (fun q => q = p) σ σ' → TX (some (.str t, σ')) σ p (N + sC (d + 1)) (sB (d + 1)) :=
      fun t σ' M h1 h2 h3 h4 => TX.done (by simp only [sB]; omega) h2 (by simp only [sC]; omega) h4
    refine Wp.br (fun _ => ?_) (fun _ => Wp.br (fun _ => ?_) (fun _ => Wp.br (fun _ => ?_) (fun _ => Wp.br (fun _ => ?_) (fun _ => Wp.br (fun _ => ?_) (fun _ => Wp.br (fun _ => ?_) (fun _ => Wp.br (fun _ => ?_) (fun _ => Wp.br (fun _ => ?_) (fun _ => Wp.br (fun _ => ?_) (fun _ => ?_)))))))))
    · exact fin _ _ _ (by simp only [List.length_append, List.length_cons, List.length_nil]; omega) s3 (by omega) f3
    · exact fin _ _ _ (by simp only [List.length_append, List.length_cons, List.length_nil]; omega) s3 (by omega) f3
    · refine (bt σ3 _ (hn.fr f3) s3 (by omega)).step (by omega) f3 fun t σ4 b4 _ s4 f4 => ?_
      simp (config := {contextual := true, implicitDefEqProofs := false, maxSteps := 1000000}) only [
    ↓PR0, ↓PR1, ↓PR2, PO0, PO1, PO2, PO3, idxV_str, result, resOf, allSome, number, upd, List.map, Option.bind_some, Nat.reduceAdd, Nat.reduceSub, Nat.reduceLeDiff, Nat.reduceLT, Nat.reduceEqDiff, Nat.zero_add, Nat.add_zero, Nat.le_refl, 
    reduceIte, ne_eq, not_false_eq_true, and_self, true_and, and_true, reduceCtorEq, cond_true, cond_false, binV_catB]
      exact fin _ _ _ (by simp only [List.length_append, List.length_cons, List.length_nil]; omega) s4 (by omega) f4
    · exact fin _ _ _ (by simp only [List.length_append, List.length_cons, List.length_nil]; omega) s3 (by omega) f3
    · refine nextS 5 (by decide) s3 (by omega) f3 fun k σ4 hk s4 f4 => ?_
      have hwk : IntKind.i64.wrap (1 + (k : Int)) = ((k + 1 : Nat) : Int) := by rw [wrap64 (by omega) (by omega)]; omega
      simp (config := {contextual := true, implicitDefEqProofs := false, maxSteps := 1000000}) only [
    ↓PR0, ↓PR1, ↓PR2, PO0, PO1, PO2, PO3, idxV_str, result, resOf, allSome, number, upd, List.map, Option.bind_some, Nat.reduceAdd, Nat.reduceSub, Nat.reduceLeDiff, Nat.reduceLT, Nat.reduceEqDiff, Nat.zero_add, Nat.add_zero, Nat.le_refl, 
    reduceIte, ne_eq, not_false_eq_true, and_self, true_and, and_true, reduceCtorEq, cond_true, cond_false, hwk]
      refine digS (by omega) fun t b4 _ => ?_
      simp (config := {contextual := true, implicitDefEqProofs := false, maxSteps := 1000000}) only [
    ↓PR0, ↓PR1, ↓PR2, PO0, PO1, PO2, PO3, idxV_str, result, resOf, allSome, number, upd, List.map, Option.bind_some, Nat.reduceAdd, Nat.reduceSub, Nat.reduceLeDiff, Nat.reduceLT, Nat.reduceEqDiff, Nat.zero_add, Nat.add_zero, Nat.le_refl, 
    reduceIte, ne_eq, not_false_eq_true, and_self, true_and, and_true, reduceCtorEq, cond_true, cond_false, binV_catB]
      exact fin _ _ _ (by simp only [List.length_append, List.length_cons, List.length_nil]; omega) s4 (by omega) f4
    · exact fin _ _ _ (by simp only [List.length_append, List.length_cons, List.length_nil]; omega) s3 (by omega) f3
    · exact fin _ _ _ (by simp only [List.length_append, List.length_cons, List.length_nil]; omega) s3 (by omega) f3
    · exact fin _ _ _ (by simp only [List.length_append, List.length_cons, List.length_nil]; omega) s3 (by omega) f3
    · exact fin _ _ _ (by simp only [List.length_append, List.length_cons, List.length_nil]; omega) s3 (by omega) f3
    · exact fin _ _ _ (by simp only [List.length_append, List.length_cons, List.length_nil]; omega) s3 (by omega) f3
end Go.X
