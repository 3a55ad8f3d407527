/- Reading back, in plain words: quotes and numbers. -/
import Derived.Test.YtiiiciekknpoeaaGreatDoorXD9
set_option linter.unusedVariables false
set_option linter.unusedSimpArgs false
set_option maxRecDepth 20000
namespace Go.X
open Go Go.Lib

theorem quotedM_esc (r : List UInt8) : ∀ t : List UInt8, t.all prB = true → quotedM (t.flatMap escB ++ 39 :: r) = some (t, (t.flatMap escB).length + 1)
  | [], _ => by rw [List.flatMap_nil, List.nil_append, qM_quote rfl]; rfl
  | b :: t, h => by
    rw [List.all_cons, Bool.and_eq_true] at h
    have ih := quotedM_esc r t h.2
    rw [List.flatMap_cons, List.append_assoc]
    cases hb : (b == 39 || b == 92) with
    | true =>
      have e : escB b = [92, b] := by simp only [escB]; rw [if_pos hb]
      rw [e, List.cons_append, List.cons_append, List.nil_append, qM_esc rfl rfl, if_pos hb, ih]
      simp only [Option.map_some, List.length_append, List.length_cons, List.length_nil, Option.some.injEq, Prod.mk.injEq, true_and]
      omega
    | false =>
      have e : escB b = [b] := by simp only [escB]; rw [if_neg (by rw [hb]; decide)]
      rw [Bool.or_eq_false_iff] at hb
      rw [e, List.cons_append, List.nil_append, qM_other hb.1 hb.2, if_pos h.1, ih]
      simp only [Option.map_some, List.length_append, List.length_cons, List.length_nil, Option.some.injEq, Prod.mk.injEq, true_and]
      omega
/-- A text between quotes is read back. -/
theorem quoteAt_quoteM {t : List UInt8} (h : t.all prB = true) : quoteAt (quoteM t) = some (t, (quoteM t).length) := by
  simp only [quoteM, quoteAt]
  rw [if_pos (show ((39 : UInt8) == 39) = true from rfl), quotedM_esc [] t h]
  simp
/-- A number is read back. -/
theorem numM_itoa {n : Int} (h : -1000000000000000000 < n ∧ n < 1000000000000000000) : numM (itoa n) = some n := by
  refine numM_of rfl ?_
  by_cases h0 : n < 0
  · obtain ⟨u, rfl⟩ : ∃ u : Nat, n = -(u : Int) := ⟨n.natAbs, by omega⟩
    rw [itoa_neg u (by omega)]
    have e : tailN (45 :: decDigits u) = decDigits u := by simp [tailN]
    rw [e, decDigits_length]
    exact nDigits_le 18 u (by omega) (by have : (10 : Nat) ^ 18 = 1000000000000000000 := rfl; omega)
  · obtain ⟨u, rfl⟩ := Int.eq_ofNat_of_zero_le (Int.not_lt.1 h0)
    rw [itoa_nonneg]
    have hl : (decDigits u).length ≤ 18 := by
      rw [decDigits_length]
      exact nDigits_le 18 u (by omega) (by have : (10 : Nat) ^ 18 = 1000000000000000000 := rfl; omega)
    simp only [tailN]
    split
    · rw [List.length_tail]; omega
    · exact hl
end Go.X
