/- GoX, part 24: the first of a list that is so. No statement of the seat is here. -/
import Derived.Test.YtlliifjmnddckaaDoorX23
set_option linter.unusedVariables false
set_option linter.unusedSimpArgs false
namespace Go.X
open Go
variable {α β R : Type}

def fndP (p : α → Bool) : List α → Option Nat
  | [] => none
  | s :: l => if p s = true then some 0 else (fndP p l).map (· + 1)
theorem fndP_none {p : α → Bool} : ∀ {l : List α}, fndP p l = none → ∀ (j : Nat) (s : α), l[j]? = some s → p s = false
  | [], _, j, s, h => by simp at h
  | x :: l, hn, j, s, h => by
    simp only [fndP] at hn
    split at hn
    · cases hn
    · rename_i hx
      have hn' : fndP p l = none := by simpa using hn
      cases j with
      | zero => simp at h; subst h; simpa using hx
      | succ j => exact fndP_none hn' j s (by simpa using h)
theorem fndP_some {p : α → Bool} : ∀ {l : List α} {k : Nat}, fndP p l = some k → (∃ s, l[k]? = some s ∧ p s = true) ∧ ∀ (j : Nat) (s : α), j < k → l[j]? = some s → p s = false
  | [], k, h => by simp [fndP] at h
  | x :: l, k, hn => by
    simp only [fndP] at hn
    split at hn
    · rename_i hx
      cases hn
      exact ⟨⟨x, rfl, hx⟩, fun j s h => by omega⟩
    · rename_i hx
      cases hf : fndP p l with
      | none => simp [hf] at hn
      | some q =>
        simp [hf] at hn
        subst hn
        obtain ⟨⟨s, h1, h2⟩, h3⟩ := fndP_some hf
        refine ⟨⟨s, by simpa using h1, h2⟩, fun j s' hj h => ?_⟩
        cases j with
        | zero => simp at h; subst h; simpa using hx
        | succ j => exact h3 j s' (by omega) (by simpa using h)
theorem fndP_any (p : α → Bool) : ∀ l : List α, (fndP p l).isSome = l.any p
  | [] => rfl
  | x :: l => by
    simp only [fndP, List.any_cons]
    cases h : p x with
    | true => simp
    | false => simp [fndP_any p l]
/-- Texts that are less, one of two at least, if they are not the same. -/
theorem bl_asymm : ∀ a b : List UInt8, Op.bytesLess a b = true → Op.bytesLess b a = false ∧ (a == b) = false
  | _, [], h => by simp [Op.bytesLess] at h
  | [], _ :: _, _ => ⟨rfl, rfl⟩
  | x :: a, y :: b, h => by
    simp only [Op.bytesLess, Bool.or_eq_true, decide_eq_true_eq, Bool.and_eq_true, beq_iff_eq] at h
    rcases h with h | ⟨rfl, h⟩
    · have h1 : ¬ y < x := by rw [UInt8.lt_iff_toNat_lt] at h ⊢; omega
      have h2 : ¬ y = x := fun e => by subst e; exact h1 h
      refine ⟨by simp [Op.bytesLess, h1, h2], ?_⟩
      rw [beq_eq_false_iff_ne]
      intro e; cases e; exact h2 rfl
    · obtain ⟨h1, h2⟩ := bl_asymm a b h
      have h3 : ¬ x < x := by rw [UInt8.lt_iff_toNat_lt]; omega
      refine ⟨by simp [Op.bytesLess, h1, h3], ?_⟩
      rw [beq_eq_false_iff_ne] at h2 ⊢
      intro e; cases e; exact h2 rfl
theorem bl_total : ∀ a b : List UInt8, Op.bytesLess a b = false → (a == b) = false → Op.bytesLess b a = true
  | [], [], _, h => by simp at h
  | _ :: _, [], _, _ => rfl
  | [], _ :: _, h, _ => by simp [Op.bytesLess] at h
  | x :: a, y :: b, h, hne => by
    simp only [Op.bytesLess, Bool.or_eq_false_iff, decide_eq_false_iff_not, Bool.and_eq_false_iff] at h
    simp only [Op.bytesLess, Bool.or_eq_true, decide_eq_true_eq, Bool.and_eq_true, beq_iff_eq]
    by_cases e : x = y
    · subst e
      right
      refine ⟨rfl, bl_total a b ?_ ?_⟩
      · rcases h.2 with h | h
        · simp at h
        · exact h
      · rw [beq_eq_false_iff_ne] at hne ⊢
        intro e; exact hne (by rw [e])
    · left
      have h1 := h.1
      rw [UInt8.lt_iff_toNat_lt] at h1 ⊢
      have : x.toNat ≠ y.toNat := fun e' => e (UInt8.toNat_inj.1 e')
      omega
theorem bl_irrefl (a : List UInt8) : Op.bytesLess a a = false := by
  cases h : Op.bytesLess a a with
  | false => rfl
  | true => have := (bl_asymm a a h).2; simp at this
end Go.X
