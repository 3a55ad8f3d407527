/- Reading tokens: one token, by the program. -/
import Derived.Test.YtiiiciekknpoeaaGreatDoorXD8
set_option linter.unusedVariables false
set_option linter.unusedSimpArgs false
set_option maxRecDepth 20000
namespace Go.X
open Go Go.Lib
variable {X : Call}

/-- What stands between the quotes at the head of a text, and how many bytes were read. -/
def quoteAt : List UInt8 → Option (List UInt8 × Nat)
  | [] => none
  | b :: r => if b == 39 then (quotedM r).map fun x => (x.1, x.2 + 1) else none
def qR (l : List UInt8) (p : Nat) : List UInt8 × Int × Bool := match quoteAt l with
  | some (x, u) => (x, ((p + u : Nat) : Int), decide ((x.length : Int) ≤ 60))
  | none => ([], 0, false)
theorem quoted_eq (t : List UInt8) (p : Nat) (hp : p < t.length) (ht : t.length ≤ 1048576) (σ : Store) : ∃ σ', EE X f_impl_quoted [.str t, int p] σ = some (.tup [.str (qR (t.drop p) p).1, int (qR (t.drop p) p).2.1, .bool (qR (t.drop p) p).2.2], σ') ∧ Pre σ σ' := by
  have hp' : (p : Int) < (t.length : Int) := by omega
  have hge : ¬ ((t.length : Int) ≤ (p : Int)) := by omega
  have hix := idx_nat t hp
  have ed := List.drop_eq_getElem_cons hp
  have hwi : IntKind.i64.wrap ((p : Int) + 1) = ((p + 1 : Nat) : Int) := wrap64 (by omega) (by omega)
  cases h39 : t[p] == 39 with
  | false =>
    have e : qR (t.drop p) p = ([], 0, false) := by simp only [qR, quoteAt, ed, h39, Bool.false_eq_true, if_false]
    refine ⟨σ, ?_, Fr.refl _ _⟩
    rw [e, EE, Ex_run C_impl_quoted rfl]
    simp (config := {contextual := true, implicitDefEqProofs := false, maxSteps := 1000000}) only [
    ↓PR0, ↓PR1, ↓PR2, PO0, PO1, PO2, PO3, result, resOf, allSome, number, upd, List.map, Option.bind_some, Nat.reduceAdd, Nat.reduceSub, Nat.reduceLeDiff, Nat.reduceLT, Nat.reduceEqDiff, Nat.zero_add, Nat.add_zero, Nat.le_refl, reduceIte, 
    ne_eq, not_false_eq_true, and_self, true_and, and_true, reduceCtorEq, cond_true, cond_false, c_impl_quoted, hge, decide_false, hix, b39i, h39, bne, Bool.not_false]
  | true =>
    have hw : OwR σ.length (σ ++ [⟨[], 1, 0, .own⟩]) 1 (bc []) (.sl σ.length 0 0 0) := OwR.new σ (bc []) 1
    obtain ⟨σ', f1, f2⟩ := quoted_loop (X := X) (R := AV × Store) t ht t.length (p + 1) [] _ _ (by omega) (by omega) (by simp) hw
    refine ⟨σ', ?_, (Pre.app σ [(⟨[], 1, 0, .own⟩ : Row)]).trans f1 (fun x h1 h2 => by omega)⟩
    unfold QRes at f2
    rw [EE, Ex_run C_impl_quoted rfl]
    cases hq : quotedM (t.drop (p + 1)) with
    | some xu =>
      obtain ⟨x, u⟩ := xu
      have e : qR (t.drop p) p = (x, ((p + 1 + u : Nat) : Int), decide ((x.length : Int) ≤ 60)) := by
        simp only [qR, quoteAt, ed, h39, if_true, hq, Option.map_some]
        have : p + (u + 1) = p + 1 + u := by omega
        rw [this]
      rw [hq] at f2
      simp only [List.nil_append] at f2
      rw [e]
      simp (config := {contextual := true, implicitDefEqProofs := false, maxSteps := 1000000}) only [
    ↓PR0, ↓PR1, ↓PR2, PO0, PO1, PO2, PO3, result, resOf, allSome, number, upd, List.map, Option.bind_some, Nat.reduceAdd, Nat.reduceSub, Nat.reduceLeDiff, Nat.reduceLT, Nat.reduceEqDiff, Nat.zero_add, Nat.add_zero, Nat.le_refl, reduceIte, 
    ne_eq, not_false_eq_true, and_self, true_and, and_true, reduceCtorEq, cond_true, cond_false, c_impl_quoted, hge, decide_false, hix, b39i, h39, bne, Bool.not_true, List.replicate_zero, hwi, f2]
    | none =>
      have e : qR (t.drop p) p = ([], 0, false) := by simp only [qR, quoteAt, ed, h39, if_true, hq, Option.map_none]
      rw [hq] at f2
      simp only at f2
      rw [e]
      rcases f2 with f2 | ⟨a', f2⟩
      · simp (config := {contextual := true, implicitDefEqProofs := false, maxSteps := 1000000}) only [
    ↓PR0, ↓PR1, ↓PR2, PO0, PO1, PO2, PO3, result, resOf, allSome, number, upd, List.map, Option.bind_some, Nat.reduceAdd, Nat.reduceSub, Nat.reduceLeDiff, Nat.reduceLT, Nat.reduceEqDiff, Nat.zero_add, Nat.add_zero, Nat.le_refl, reduceIte, 
    ne_eq, not_false_eq_true, and_self, true_and, and_true, reduceCtorEq, cond_true, cond_false, c_impl_quoted, hge, decide_false, hix, b39i, h39, bne, Bool.not_true, List.replicate_zero, hwi, f2]
      · simp (config := {contextual := true, implicitDefEqProofs := false, maxSteps := 1000000}) only [
    ↓PR0, ↓PR1, ↓PR2, PO0, PO1, PO2, PO3, result, resOf, allSome, number, upd, List.map, Option.bind_some, Nat.reduceAdd, Nat.reduceSub, Nat.reduceLeDiff, Nat.reduceLT, Nat.reduceEqDiff, Nat.zero_add, Nat.add_zero, Nat.le_refl, reduceIte, 
    ne_eq, not_false_eq_true, and_self, true_and, and_true, reduceCtorEq, cond_true, cond_false, c_impl_quoted, hge, decide_false, hix, b39i, h39, bne, Bool.not_true, List.replicate_zero, hwi, f2]

theorem signAt_len (l : List UInt8) : (signAt l).length ≤ 2 := by
  unfold signAt
  cases h : sign3 l with
  | some p =>
    have := List.mem_of_find?_eq_some h
    simp only [List.mem_cons, List.not_mem_nil, or_false] at this
    rcases this with rfl | rfl | rfl <;> simp
  | none =>
    cases l with
    | nil => simp
    | cons b r => simp only; split <;> simp
def digB (b : UInt8) : Bool := digI (b.toNat : Nat)
/-- The token at the head of a text: its kind, its text, how many bytes were read. -/
def lexM (l : List UInt8) : Option (Int × List UInt8 × Nat) := match l with
  | [] => none
  | b :: r =>
    if ltrI (b.toNat : Nat) = true then
      if runN ldB (b :: r) ≤ 20 then some (if wordOK ((b :: r).take (runN ldB (b :: r))) = true then 2 else 1, (b :: r).take (runN ldB (b :: r)), runN ldB (b :: r)) else none
    else if digI (b.toNat : Nat) = true then
      if intM ((b :: r).take (runN digB (b :: r))) = true then some (3, (b :: r).take (runN digB (b :: r)), runN digB (b :: r)) else none
    else if (b == 39) = true then
      match quotedM r with
      | some (x, u) => if x.length ≤ 60 then some (4, x, u + 1) else none
      | none => none
    else if signAt (b :: r) = [] then none else some (5, signAt (b :: r), (signAt (b :: r)).length)
theorem run_take (p : UInt8 → Bool) : ∀ l : List UInt8, (l.take (runN p l)).all p = true
  | [] => rfl
  | b :: l => by
    have ih := run_take p l
    simp only [runN]
    cases h : p b with
    | false => simp
    | true => simp only [if_true, List.take_succ_cons, List.all_cons, h, ih, Bool.and_self]
theorem wordOK_len {t : List UInt8} (h : wordOK t = true) : t.length ≤ 8 := by
  unfold wordOK at h
  rw [List.any_eq_true] at h
  obtain ⟨x, hx, he⟩ := h
  rw [eq_of_beq he]
  exact srcWords_len x hx
theorem nameOK_run {b : UInt8} {r : List UInt8} (h : ltrI (b.toNat : Nat) = true) : nameOK ((b :: r).take (runN ldB (b :: r))) = decide (runN ldB (b :: r) ≤ 40) := by
  have hb : ldB b = true := by simp [ldB, h]
  have hle := runN_le ldB r
  simp only [runN, hb, if_true, List.take_succ_cons, nameOK, h, run_take, Bool.and_true, List.length_cons, List.length_take, Nat.min_eq_left hle]
theorem ident_run {b : UInt8} {r : List UInt8} (h : ltrI (b.toNat : Nat) = true) : identM ((b :: r).take (runN ldB (b :: r))) = (decide (runN ldB (b :: r) ≤ 20) && !wordOK ((b :: r).take (runN ldB (b :: r)))) := by
  have hle := runN_le ldB (b :: r)
  have hl : ((b :: r).take (runN ldB (b :: r))).length = runN ldB (b :: r) := by rw [List.length_take, Nat.min_eq_left hle]
  unfold identM
  rw [nameOK_run h, hl]
  by_cases h20 : runN ldB (b :: r) ≤ 20
  · have h40 : runN ldB (b :: r) ≤ 40 := by omega
    have h20' : ((runN ldB (b :: r) : Nat) : Int) ≤ 20 := by omega
    simp only [h20, h40, h20', decide_true, Bool.true_and]
  · have h20' : ¬ ((runN ldB (b :: r) : Nat) : Int) ≤ 20 := by omega
    simp only [h20, h20', decide_false, Bool.and_false, Bool.false_and]
theorem isDigitF_eq (b : UInt8) (σ : Store) : EE X f_impl_isDigit [.int .u8 (b.toNat : Nat)] σ = some (.bool (digB b), σ) := isDigit_eq _ σ
theorem identByte_eq (b : UInt8) (σ : Store) : EE X f_impl_identByte [.int .u8 (b.toNat : Nat)] σ = some (.bool (ldB b), σ) := by
  have h1 := isLetter_eq (X := X) (b.toNat : Nat) σ
  have h2 := isDigit_eq (X := X) (b.toNat : Nat) σ
  rw [EE, Ex_run C_impl_identByte rfl]
  cases h : ltrI (b.toNat : Nat) with
  | true =>
    rw [h] at h1
    simp (config := {contextual := true, implicitDefEqProofs := false, maxSteps := 1000000}) only [
    ↓PR0, ↓PR1, ↓PR2, PO0, PO1, PO2, PO3, idxV_str, result, resOf, allSome, number, upd, List.map, Option.bind_some, Nat.reduceAdd, Nat.reduceSub, Nat.reduceLeDiff, Nat.reduceLT, Nat.reduceEqDiff, Nat.zero_add, Nat.add_zero, Nat.le_refl, 
    reduceIte, ne_eq, not_false_eq_true, and_self, true_and, and_true, reduceCtorEq, cond_true, cond_false, c_impl_identByte, h1]
    simp only [ldB, h, Bool.true_or]
  | false =>
    rw [h] at h1
    simp (config := {contextual := true, implicitDefEqProofs := false, maxSteps := 1000000}) only [
    ↓PR0, ↓PR1, ↓PR2, PO0, PO1, PO2, PO3, idxV_str, result, resOf, allSome, number, upd, List.map, Option.bind_some, Nat.reduceAdd, Nat.reduceSub, Nat.reduceLeDiff, Nat.reduceLT, Nat.reduceEqDiff, Nat.zero_add, Nat.add_zero, Nat.le_refl, 
    reduceIte, ne_eq, not_false_eq_true, and_self, true_and, and_true, reduceCtorEq, cond_true, cond_false, c_impl_identByte, h1, h2]
    simp only [ldB, h, Bool.false_or]
theorem run_pos {p : UInt8 → Bool} {b : UInt8} {r : List UInt8} (h : p b = true) : 1 ≤ runN p (b :: r) := by simp [runN, h]
/-- What the program gives of the token at a place. -/
def TokRes (t : List UInt8) (p : Nat) (r : AV) : Prop := ∃ k q w n ok, r = .tup [.agg [int k, int q, .str w], int n, .bool ok] ∧
  (match lexM (t.drop p) with
   | some (k', w', n') => ok = true ∧ k = k' ∧ q = (p : Int) ∧ w = w' ∧ n = ((p + n' : Nat) : Int)
   | none => ok = false)
set_option maxHeartbeats 1000000 in
theorem token_eq (hX : LibX X) (t : List UInt8) (p : Nat) (hp : p < t.length) (ht : t.length ≤ 1048576) (σ : Store) : ∃ r σ', EE X f_impl_token [.str t, int p] σ = some (r, σ') ∧ Pre σ σ' ∧ TokRes t p r := by
  have hp' : (p : Int) < (t.length : Int) := by omega
  have htl : t.length ≤ 9223372036854775807 := by omega
  have hix := idx_nat t hp
  have ed := List.drop_eq_getElem_cons hp
  have hl1 := isLetter_eq (X := X) (t[p].toNat : Nat)
  have hd1 := isDigit_eq (X := X) (t[p].toNat : Nat)
  have cut : ∀ n : Nat, p + n ≤ t.length → ((0 : Int) ≤ (p : Int) ∧ (p : Int) ≤ ((p + n : Nat) : Int) ∧ ((p + n : Nat) : Int) ≤ (t.length : Int)) ∧ List.take (((p + n : Nat) : Int).toNat - ((p : Nat) : Int).toNat) (List.drop ((p : Nat) : Int).toNat t) = (t.drop p).take n := by
    intro n hn
    refine ⟨by omega, ?_⟩
    rw [Int.toNat_natCast, Int.toNat_natCast]
    have : p + n - p = n := by omega
    rw [this]
  cases hl : ltrI (t[p].toNat : Nat) with
  | true =>
    rw [hl] at hl1
    have hr := run_eq (X := X) ldB f_impl_identByte [] t p σ (fun b => identByte_eq b σ) htl (by omega)
    have hle := runN_le ldB (t.drop p)
    rw [List.length_drop] at hle
    obtain ⟨c1, c2⟩ := cut (runN ldB (t.drop p)) (by omega)
    have hid := ident_run (r := t.drop (p + 1)) hl
    rw [← ed] at hid
    have hwd := implWordOK_eq (X := X) ((t.drop p).take (runN ldB (t.drop p)))
    have hlex : lexM (t.drop p) = if runN ldB (t.drop p) ≤ 20 then some (if wordOK ((t.drop p).take (runN ldB (t.drop p))) = true then 2 else 1, (t.drop p).take (runN ldB (t.drop p)), runN ldB (t.drop p)) else none := by
      rw [ed]
      simp only [lexM, hl, if_true]
    have hlw : ((t.drop p).take (runN ldB (t.drop p))).length = runN ldB (t.drop p) := by rw [List.length_take, List.length_drop, Nat.min_eq_left (by omega)]
    cases hw : wordOK ((t.drop p).take (runN ldB (t.drop p))) with
    | true =>
      have h8 := wordOK_len hw
      rw [hlw] at h8
      have h20 : runN ldB (t.drop p) ≤ 20 := by omega
      rw [hw] at hwd
      refine ⟨.tup [.agg [int 2, int p, .str ((t.drop p).take (runN ldB (t.drop p)))], int ((p + runN ldB (t.drop p) : Nat) : Int), .bool true], σ ++ [⟨srcWords.map (fun t => [.str t]), 1, 0, .own⟩], ?_, Pre.app _ _, 2, p, _, _, true, rfl, ?_⟩
      · rw [EE, Ex_run C_impl_token rfl]
        simp (config := {contextual := true, implicitDefEqProofs := false, maxSteps := 1000000}) only [
    ↓PR0, ↓PR1, ↓PR2, PO0, PO1, PO2, PO3, result, resOf, allSome, number, upd, List.map, Option.bind_some, Nat.reduceAdd, Nat.reduceSub, Nat.reduceLeDiff, Nat.reduceLT, Nat.reduceEqDiff, Nat.zero_add, Nat.add_zero, Nat.le_refl, reduceIte, 
    ne_eq, not_false_eq_true, and_self, true_and, and_true, reduceCtorEq, cond_true, cond_false, c_impl_token, hix, hl1, hr, c1, c2, hwd]
      · rw [hlex, if_pos h20, if_pos hw]
        exact ⟨rfl, rfl, rfl, rfl, rfl⟩
    | false =>
      rw [hw, Bool.not_false, Bool.and_true] at hid
      rw [hw] at hwd
      obtain ⟨σ', i1, i2⟩ := identOK_eq (X := X) ((t.drop p).take (runN ldB (t.drop p))) (σ ++ [⟨srcWords.map (fun t => [.str t]), 1, 0, .own⟩]) (by unfold LenOk; omega)
      rw [hid] at i1
      refine ⟨.tup [.agg [int 1, int p, .str ((t.drop p).take (runN ldB (t.drop p)))], int ((p + runN ldB (t.drop p) : Nat) : Int), .bool (decide (runN ldB (t.drop p) ≤ 20))], σ', ?_, (Pre.app σ [(⟨srcWords.map (fun t => [.str t]), 1, 0, .own⟩ : Row)]).pre i2, 1, p, _, _, _, rfl, ?_⟩
      · rw [EE, Ex_run C_impl_token rfl]
        simp (config := {contextual := true, implicitDefEqProofs := false, maxSteps := 1000000}) only [
    ↓PR0, ↓PR1, ↓PR2, PO0, PO1, PO2, PO3, result, resOf, allSome, number, upd, List.map, Option.bind_some, Nat.reduceAdd, Nat.reduceSub, Nat.reduceLeDiff, Nat.reduceLT, Nat.reduceEqDiff, Nat.zero_add, Nat.add_zero, Nat.le_refl, reduceIte, 
    ne_eq, not_false_eq_true, and_self, true_and, and_true, reduceCtorEq, cond_true, cond_false, c_impl_token, hix, hl1, hr, c1, c2, hwd, i1]
      · rw [hlex]
        by_cases h20 : runN ldB (t.drop p) ≤ 20
        · rw [if_pos h20, if_neg (by rw [hw]; decide)]
          exact ⟨decide_eq_true h20, rfl, rfl, rfl, rfl⟩
        · rw [if_neg h20]
          exact decide_eq_false h20
  | false =>
    rw [hl] at hl1
    cases hd : digI (t[p].toNat : Nat) with
    | true =>
      rw [hd] at hd1
      have hr := run_eq (X := X) digB f_impl_isDigit [] t p σ (fun b => isDigitF_eq b σ) htl (by omega)
      have hle := runN_le digB (t.drop p)
      rw [List.length_drop] at hle
      obtain ⟨c1, c2⟩ := cut (runN digB (t.drop p)) (by omega)
      have hio := intOK_eq hX ((t.drop p).take (runN digB (t.drop p))) (by rw [List.length_take, List.length_drop]; omega) σ
      have hlex : lexM (t.drop p) = if intM ((t.drop p).take (runN digB (t.drop p))) = true then some (3, (t.drop p).take (runN digB (t.drop p)), runN digB (t.drop p)) else none := by
        rw [ed]
        simp only [lexM, hl, hd, if_true, if_false, Bool.false_eq_true]
      refine ⟨.tup [.agg [int 3, int p, .str ((t.drop p).take (runN digB (t.drop p)))], int ((p + runN digB (t.drop p) : Nat) : Int), .bool (intM ((t.drop p).take (runN digB (t.drop p))))], σ, ?_, Fr.refl _ _, 3, p, _, _, _, rfl, ?_⟩
      · rw [EE, Ex_run C_impl_token rfl]
        simp (config := {contextual := true, implicitDefEqProofs := false, maxSteps := 1000000}) only [
    ↓PR0, ↓PR1, ↓PR2, PO0, PO1, PO2, PO3, result, resOf, allSome, number, upd, List.map, Option.bind_some, Nat.reduceAdd, Nat.reduceSub, Nat.reduceLeDiff, Nat.reduceLT, Nat.reduceEqDiff, Nat.zero_add, Nat.add_zero, Nat.le_refl, reduceIte, 
    ne_eq, not_false_eq_true, and_self, true_and, and_true, reduceCtorEq, cond_true, cond_false, c_impl_token, hix, hl1, hd1, hr, c1, c2, hio]
      · rw [hlex]
        cases hm : intM ((t.drop p).take (runN digB (t.drop p))) with
        | true => simp only [if_true]; exact ⟨trivial, trivial, trivial, trivial, trivial⟩
        | false => simp only [Bool.false_eq_true, if_false]
    | false =>
      rw [hd] at hd1
      cases h39 : t[p] == 39 with
      | true =>
        obtain ⟨σ', q1, q2⟩ := quoted_eq (X := X) t p hp ht σ
        have hlex : lexM (t.drop p) = match quotedM (t.drop (p + 1)) with
            | some (x, u) => if x.length ≤ 60 then some (4, x, u + 1) else none
            | none => none := by
          rw [ed]
          simp only [lexM, hl, hd, h39, if_true, if_false, Bool.false_eq_true]
        have hqa : quoteAt (t.drop p) = (quotedM (t.drop (p + 1))).map fun x => (x.1, x.2 + 1) := by
          rw [ed]
          simp only [quoteAt, h39, if_true]
        refine ⟨.tup [.agg [int 4, int p, .str (qR (t.drop p) p).1], int (qR (t.drop p) p).2.1, .bool (qR (t.drop p) p).2.2], σ', ?_, q2, 4, p, _, _, _, rfl, ?_⟩
        · rw [EE, Ex_run C_impl_token rfl]
          simp (config := {contextual := true, implicitDefEqProofs := false, maxSteps := 1000000}) only [
    ↓PR0, ↓PR1, ↓PR2, PO0, PO1, PO2, PO3, result, resOf, allSome, number, upd, List.map, Option.bind_some, Nat.reduceAdd, Nat.reduceSub, Nat.reduceLeDiff, Nat.reduceLT, Nat.reduceEqDiff, Nat.zero_add, Nat.add_zero, Nat.le_refl, reduceIte, 
    ne_eq, not_false_eq_true, and_self, true_and, and_true, reduceCtorEq, cond_true, cond_false, c_impl_token, hix, hl1, hd1, b39i, h39, q1]
        · rw [hlex]
          cases hq : quotedM (t.drop (p + 1)) with
          | none =>
            rw [hq] at hqa
            simp only [qR, hqa, Option.map_none]
          | some xu =>
            obtain ⟨x, u⟩ := xu
            rw [hq] at hqa
            by_cases h60 : x.length ≤ 60
            · have h60' : (x.length : Int) ≤ 60 := by omega
              simp only [qR, hqa, Option.map_some, h60, h60', if_true, decide_true]
              exact ⟨trivial, trivial, trivial, trivial, trivial⟩
            · have h60' : ¬ (x.length : Int) ≤ 60 := by omega
              simp only [qR, hqa, Option.map_some, h60, h60', if_false, decide_false]
      | false =>
        obtain ⟨σ', s1, s2⟩ := sign_eq hX t p hp ht σ
        have hlex : lexM (t.drop p) = if signAt (t.drop p) = [] then none else some (5, signAt (t.drop p), (signAt (t.drop p)).length) := by
          rw [ed]
          simp only [lexM, hl, hd, h39, if_false, Bool.false_eq_true]
        have hsl := signAt_len (t.drop p)
        have hwi : IntKind.i64.wrap ((p : Int) + ((signAt (t.drop p)).length : Int)) = ((p + (signAt (t.drop p)).length : Nat) : Int) := wrap64 (by omega) (by omega)
        refine ⟨.tup [.agg [int 5, int p, .str (signAt (t.drop p))], int ((p + (signAt (t.drop p)).length : Nat) : Int), .bool (signAt (t.drop p) != [])], σ', ?_, s2, 5, p, _, _, _, rfl, ?_⟩
        · rw [EE, Ex_run C_impl_token rfl]
          simp (config := {contextual := true, implicitDefEqProofs := false, maxSteps := 1000000}) only [
    ↓PR0, ↓PR1, ↓PR2, PO0, PO1, PO2, PO3, result, resOf, allSome, number, upd, List.map, Option.bind_some, Nat.reduceAdd, Nat.reduceSub, Nat.reduceLeDiff, Nat.reduceLT, Nat.reduceEqDiff, Nat.zero_add, Nat.add_zero, Nat.le_refl, reduceIte, 
    ne_eq, not_false_eq_true, and_self, true_and, and_true, reduceCtorEq, cond_true, cond_false, c_impl_token, hix, hl1, hd1, b39i, h39, s1, hwi]
        · rw [hlex]
          by_cases hs : signAt (t.drop p) = []
          · rw [if_pos hs, hs]
            rfl
          · rw [if_neg hs]
            exact ⟨by simpa using hs, rfl, rfl, rfl, rfl⟩
end Go.X
