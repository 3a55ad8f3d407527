/- Numerals, as plain laws. No program is here. -/
import Derived.Lib.ItoaNum
import Derived.Lib.AtoiAll
import Derived.Lib.Atoi
import Derived.Lib.ItoaMem
set_option linter.unusedVariables false
set_option linter.unusedSimpArgs false
namespace Go.X
open Go Go.Lib

def isD (b : UInt8) : Bool := decide (48 ≤ b.toNat) && decide (b.toNat ≤ 57)
theorem digitVal_some {b : UInt8} (h : isD b = true) : digitVal b = some (b.toNat - 48) := by
  simp only [isD, Bool.and_eq_true, decide_eq_true_eq] at h
  unfold digitVal; rw [if_pos h]
theorem digitVal_none {b : UInt8} (h : isD b = false) : digitVal b = none := by
  simp only [isD, Bool.and_eq_false_iff, decide_eq_false_iff_not] at h
  unfold digitVal; rw [if_neg (by omega)]
theorem decFrom_snoc : ∀ (l : List UInt8) (acc : Nat) (b : UInt8), decFrom acc (l ++ [b]) = (decFrom acc l).bind fun n => (digitVal b).map fun d => n * 10 + d
  | [], acc, b => by simp only [List.nil_append, decFrom, Option.bind_some]; cases digitVal b <;> rfl
  | a :: l, acc, b => by
    simp only [List.cons_append, decFrom]
    cases digitVal a with
    | none => rfl
    | some d => exact decFrom_snoc l _ b
theorem ofNat_dig {b : UInt8} (h : isD b = true) : UInt8.ofNat (48 + (b.toNat - 48)) = b := by
  simp only [isD, Bool.and_eq_true, decide_eq_true_eq] at h
  have : 48 + (b.toNat - 48) = b.toNat := by omega
  rw [this]
  apply UInt8.toNat_inj.1
  rw [UInt8.toNat_ofNat']
  have := UInt8.toNat_lt b
  omega
/-- A numeral that does not begin with a needless 0 is what its number is written as. -/
theorem dec_canon : ∀ (k : Nat) (l : List UInt8) (n : Nat), l.length = k → l ≠ [] → (l.head? = some 48 → l.length = 1) → decFrom 0 l = some n → decDigits n = l ∧ (1 < l.length → 1 ≤ n) := by
  intro k
  induction k with
  | zero => intro l n h1 h2; exact (h2 (List.length_eq_zero_iff.1 h1)).elim
  | succ k ih =>
    intro l n h1 h2 h3 h4
    obtain ⟨l', b, rfl⟩ : ∃ l' b, l = l' ++ [b] := ⟨l.dropLast, l.getLast h2, (List.dropLast_concat_getLast h2).symm⟩
    rw [decFrom_snoc] at h4
    cases hb : isD b with
    | false => rw [digitVal_none hb] at h4; cases h : decFrom 0 l' <;> rw [h] at h4 <;> cases h4
    | true =>
      rw [digitVal_some hb] at h4
      have hd : b.toNat - 48 ≤ 9 := by simp only [isD, Bool.and_eq_true, decide_eq_true_eq] at hb; omega
      cases l' with
      | nil =>
        simp only [decFrom, Option.bind_some, Option.map_some, Nat.zero_mul, Nat.zero_add, Option.some.injEq] at h4
        subst h4
        exact ⟨by rw [decDigits_one (by omega), ofNat_dig hb]; rfl, fun h => by simp at h⟩
      | cons a l'' =>
        cases hv : decFrom 0 (a :: l'') with
        | none => rw [hv] at h4; cases h4
        | some m =>
          rw [hv] at h4
          simp only [Option.bind_some, Option.map_some, Option.some.injEq] at h4
          subst h4
          have h3' : a ≠ 48 := by intro e; subst e; have := h3 rfl; simp at this
          have ih' := ih (a :: l'') m (by simpa using h1) (by simp) (fun h => by simp at h; exact (h3' h).elim) hv
          have hm : 1 ≤ m := by
            cases l'' with
            | nil =>
              simp only [decFrom] at hv
              cases ha : isD a with
              | false => rw [digitVal_none ha] at hv; cases hv
              | true =>
                rw [digitVal_some ha] at hv
                simp only [Nat.zero_mul, Nat.zero_add, Option.some.injEq] at hv
                simp only [isD, Bool.and_eq_true, decide_eq_true_eq] at ha
                have : a.toNat ≠ 48 := fun e => h3' (UInt8.toNat_inj.1 e)
                omega
            | cons _ _ => exact ih'.2 (by simp)
          refine ⟨?_, fun _ => by omega⟩
          rw [decDigits, dif_neg (by omega)]
          have e1 : (m * 10 + (b.toNat - 48)) / 10 = m := by omega
          have e2 : (m * 10 + (b.toNat - 48)) % 10 = b.toNat - 48 := by omega
          rw [e1, e2, ih'.1, ofNat_dig hb]
theorem isD_ofNat {d : Nat} (h : d < 10) : isD (UInt8.ofNat (48 + d)) = true ∧ (UInt8.ofNat (48 + d)).toNat - 48 = d := by
  have : (UInt8.ofNat (48 + d)).toNat = 48 + d := by rw [UInt8.toNat_ofNat']; omega
  simp only [isD, this, Bool.and_eq_true, decide_eq_true_eq]
  omega
/-- What is written is read. -/
theorem dec_read (n : Nat) : decFrom 0 (decDigits n) = some n ∧ decDigits n ≠ [] ∧ ((decDigits n).head? = some 48 → (decDigits n).length = 1) := by
  induction n using Nat.strongRecOn with
  | _ n ih =>
    by_cases h : n < 10
    · rw [decDigits, dif_pos h]
      obtain ⟨h1, h2⟩ := isD_ofNat h
      refine ⟨?_, by simp, fun _ => rfl⟩
      simp only [decFrom, digitVal_some h1, h2]; simp
    · rw [decDigits, dif_neg h]
      obtain ⟨i1, i2, i3⟩ := ih (n / 10) (by omega)
      obtain ⟨h1, h2⟩ := isD_ofNat (show n % 10 < 10 by omega)
      refine ⟨?_, by simp, fun hh => ?_⟩
      · rw [decFrom_snoc, i1, digitVal_some h1, h2]
        simp only [Option.bind_some, Option.map_some, Option.some.injEq]; omega
      · exfalso
        have hne : (decDigits (n / 10)).head? = some 48 := by
          cases hd : decDigits (n / 10) with
          | nil => exact (i2 hd).elim
          | cons a l => rw [hd] at hh; simpa using hh
        have hl1 := i3 hne
        by_cases h10 : n / 10 < 10
        · rw [decDigits_one h10] at hne
          simp only [List.head?_cons, Option.some.injEq] at hne
          have := congrArg UInt8.toNat hne
          rw [UInt8.toNat_ofNat'] at this
          have h48 : (48 : UInt8).toNat = 48 := rfl
          rw [h48] at this
          omega
        · rw [decDigits, dif_neg h10] at hl1
          simp only [List.length_append, List.length_cons, List.length_nil] at hl1
          have := List.length_eq_zero_iff.1 (show (decDigits (n / 10 / 10)).length = 0 by omega)
          have h9 := decDigits_length (n / 10 / 10)
          rw [this] at h9
          have := nDigits_pos (n / 10 / 10)
          simp at h9; omega
theorem parse_dec : ∀ (l : List UInt8) (acc : Nat), (acc + 1) * 10 ^ l.length ≤ 10 ^ 18 → parseUint10 acc l = (match decFrom acc l with | some n => .ok n | none => .syntax)
  | [], acc, _ => rfl
  | c :: r, acc, h => by
    simp only [parseUint10, decFrom]
    have hp : 1 ≤ 10 ^ r.length := Nat.one_le_pow _ _ (by decide)
    have h18 : (acc + 1) * 10 ≤ 10 ^ 18 := by
      have : (acc + 1) * 10 ≤ (acc + 1) * 10 ^ (r.length + 1) := by
        rw [Nat.pow_succ]
        exact Nat.mul_le_mul_left _ (Nat.le_mul_of_pos_left 10 hp)
      exact Nat.le_trans this h
    have h18' : (10 : Nat) ^ 18 = 1000000000000000000 := rfl
    cases hc : isD c with
    | false =>
      rw [digitVal_none hc]
      simp only [isD, Bool.and_eq_false_iff, decide_eq_false_iff_not] at hc
      rw [if_neg (by omega)]
    | true =>
      rw [digitVal_some hc]
      simp only [isD, Bool.and_eq_true, decide_eq_true_eq] at hc
      rw [if_pos hc, if_neg (by omega), if_neg (by omega)]
      refine parse_dec r _ ?_
      have : (acc * 10 + (c.toNat - 48) + 1) * 10 ^ r.length ≤ (acc + 1) * 10 ^ (r.length + 1) := by
        rw [Nat.pow_succ, Nat.mul_comm (10 ^ r.length) 10, ← Nat.mul_assoc]
        exact Nat.mul_le_mul_right _ (by omega)
      exact Nat.le_trans this h

/-! ### The numbers that are read -/

def tailN (t : List UInt8) : List UInt8 := if t.head? = some 45 then t.tail else t
/-- The number that digits are. -/
def numM (t : List UInt8) : Option Int :=
  if tailN t = [] ∨ 18 < (tailN t).length ∨ ((tailN t).head? = some 48 ∧ (1 < (tailN t).length ∨ t.head? = some 45)) then none
  else (decFrom 0 (tailN t)).map fun (n : Nat) => if t.head? = some 45 then -(n : Int) else (n : Int)
theorem b43 (b : UInt8) : b.toNat = 43 ↔ b = 43 := ⟨fun h => UInt8.toNat_inj.1 h, fun h => by subst h; rfl⟩
theorem b45 (b : UInt8) : b.toNat = 45 ↔ b = 45 := ⟨fun h => UInt8.toNat_inj.1 h, fun h => by subst h; rfl⟩
theorem len18 {l : List UInt8} (h : l.length ≤ 18) : (0 + 1) * 10 ^ l.length ≤ 10 ^ 18 := by
  rw [Nat.zero_add, Nat.one_mul]; exact Nat.pow_le_pow_right (by decide) h
theorem dec_lt18 {l : List UInt8} {n : Nat} (h : l.length ≤ 18) (hd : decFrom 0 l = some n) : n < 10 ^ 18 := by
  have := decFrom_lt l 0 n hd
  have := len18 h
  omega
/-- What is read is written so, and Go's own reader reads it. -/
theorem numM_some {t : List UInt8} {v : Int} (h : numM t = some v) : atoiAll t = .ok v ∧ itoa v = t ∧ (tailN t).length ≤ 18 ∧ -(10 ^ 18 : Int) < v ∧ v < 10 ^ 18 := by
  unfold numM at h
  split at h
  · cases h
  · rename_i hc
    simp only [not_or, Nat.not_lt, not_and] at hc
    obtain ⟨h1, h2, h3⟩ := hc
    cases hd : decFrom 0 (tailN t) with
    | none => rw [hd] at h; cases h
    | some n =>
      rw [hd] at h
      simp only [Option.map_some, Option.some.injEq] at h
      have hcan := dec_canon _ (tailN t) n rfl h1 (fun hh => by have := (h3 hh).1; have : (tailN t).length ≠ 0 := fun e => h1 (List.length_eq_zero_iff.1 e); omega) hd
      have hlt := dec_lt18 h2 hd
      have h18' : (10 : Nat) ^ 18 = 1000000000000000000 := rfl
      have h18i : (10 : Int) ^ 18 = 1000000000000000000 := rfl
      have hpm : parseMag (tailN t) = .ok n := by
        unfold parseMag
        rw [if_neg h1, parse_dec _ _ (len18 h2), hd]
      cases t with
      | nil => exact (h1 rfl).elim
      | cons c r =>
        by_cases hn : c = 45
        · subst hn
          have ht : tailN (45 :: r) = r := by simp [tailN]
          rw [ht] at hpm hcan h3 h1 hd h2
          rw [if_pos (by simp)] at h
          subst h
          have hn0 : 1 ≤ n := by
            by_cases hl : 1 < r.length
            · exact hcan.2 hl
            · cases r with
              | nil => exact (h1 rfl).elim
              | cons a r' =>
                have hr' : r' = [] := List.length_eq_zero_iff.1 (by simp only [List.length_cons] at hl; omega)
                subst hr'
                simp only [decFrom] at hd
                cases ha : isD a with
                | false => rw [digitVal_none ha] at hd; cases hd
                | true =>
                  rw [digitVal_some ha] at hd
                  simp only [Nat.zero_mul, Nat.zero_add, Option.some.injEq] at hd
                  simp only [isD, Bool.and_eq_true, decide_eq_true_eq] at ha
                  have h48 : a ≠ 48 := by
                    intro e; subst e
                    exact (h3 (by simp)).2 (by simp)
                  have : a.toNat ≠ 48 := fun e => h48 (UInt8.toNat_inj.1 e)
                  omega
          refine ⟨?_, by rw [itoa_neg n hn0, hcan.1], h2, by omega, by omega⟩
          have e45 : (45 : UInt8).toNat = 45 := rfl
          simp only [atoiAll, e45]
          simp only [or_true, if_true, hpm, not_true_eq_false, false_and, if_false, true_and]
          rw [if_neg (by omega)]
        · have ht : tailN (c :: r) = c :: r := by simp [tailN, hn]
          rw [ht] at hpm hcan h3 h1 hd h2
          rw [if_neg (by simp [hn])] at h
          subst h
          refine ⟨?_, by rw [itoa_nonneg, hcan.1], by rw [ht]; exact h2, by omega, by omega⟩
          have hc43 : c.toNat ≠ 43 := by
            intro e
            have hc : isD c = false := by simp [isD, e]
            simp only [decFrom, digitVal_none hc] at hd
            cases hd
          have hc45 : c.toNat ≠ 45 := fun e => hn ((b45 c).1 e)
          simp only [atoiAll, hc43, hc45, or_self, if_false, hpm, not_false_eq_true, true_and, false_and]
          rw [if_neg (by omega)]
/-- What Go's own reader reads and writes alike, short enough, is read. -/
theorem numM_of {t : List UInt8} {v : Int} (h1 : itoa v = t) (h2 : (tailN t).length ≤ 18) : numM t = some v := by
  subst h1
  unfold numM
  by_cases hv : v < 0
  · obtain ⟨n, hn⟩ : ∃ n : Nat, v = -(n : Int) := ⟨v.natAbs, by omega⟩
    subst hn
    have hn1 : 1 ≤ n := by omega
    rw [itoa_neg n hn1] at h2 ⊢
    have ht : tailN (45 :: decDigits n) = decDigits n := by simp [tailN]
    rw [ht] at h2 ⊢
    obtain ⟨d1, d2, d3⟩ := dec_read n
    rw [if_neg, d1]
    · simp
    · simp only [not_or, Nat.not_lt, not_and]
      refine ⟨d2, h2, fun hh => ?_⟩
      have hl := d3 hh
      exfalso
      cases hd : decDigits n with
      | nil => exact d2 hd
      | cons a l =>
        rw [hd] at hl hh d1
        have : l = [] := List.length_eq_zero_iff.1 (by simpa using hl)
        subst this
        simp only [List.head?_cons, Option.some.injEq] at hh
        subst hh
        have : decFrom 0 [48] = some 0 := rfl
        rw [this] at d1
        simp only [Option.some.injEq] at d1
        omega
  · obtain ⟨n, rfl⟩ := Int.eq_ofNat_of_zero_le (Int.not_lt.1 hv)
    rw [itoa_nonneg] at h2 ⊢
    obtain ⟨d1, d2, d3⟩ := dec_read n
    have hne : (decDigits n).head? ≠ some 45 := by
      intro hh
      cases hd : decDigits n with
      | nil => exact d2 hd
      | cons a l =>
        rw [hd] at hh d1
        simp only [List.head?_cons, Option.some.injEq] at hh
        subst hh
        have : decFrom 0 (45 :: l) = none := rfl
        rw [this] at d1
        cases d1
    have ht : tailN (decDigits n) = decDigits n := by simp [tailN, hne]
    rw [ht] at h2 ⊢
    rw [if_neg, d1]
    · simp [hne]
    · simp only [not_or, Nat.not_lt, not_and]
      exact ⟨d2, h2, fun hh => ⟨by have := d3 hh; omega, hne⟩⟩
end Go.X
