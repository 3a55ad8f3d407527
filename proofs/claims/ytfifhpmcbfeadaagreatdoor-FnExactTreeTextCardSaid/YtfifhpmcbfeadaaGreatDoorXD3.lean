/- Tokens, in plain words: numbers, signs, quotes. -/
import Derived.Test.YtfifhpmcbfeadaaGreatDoorXD2
import Derived.Test.YtfifhpmcbfeadaaGreatDoorXL3
import Derived.Lib.Bytealg
set_option linter.unusedVariables false
set_option linter.unusedSimpArgs false
set_option maxRecDepth 20000
namespace Go.X
open Go Go.Lib
variable {X : Call}

theorem atoi_i64 {t : List UInt8} {v : Int} (h : atoiAll t = .ok v) : I64 v := by
  unfold atoiAll at h
  split at h
  · cases h
  · simp only at h
    split at h
    · cases h
    · cases h
    · rename_i u hu
      have := parseMag_lt hu
      split at h
      · cases h
      · split at h
        · cases h
        · injection h with h
          subst h
          unfold I64
          split <;> omega
/-- A number that is an int of the language, from zero up. -/
def intM (t : List UInt8) : Bool := match numM t with | some v => decide (0 ≤ v) && decide (v ≤ 2147483647) | none => false

/-! ### Signs -/
def signs15 : List UInt8 := [43, 45, 42, 47, 37, 60, 61, 33, 40, 41, 123, 125, 44, 59]
def signs17 : List UInt8 := [43, 45, 42, 47, 37, 60, 61, 33, 38, 124, 40, 41, 123, 125, 44, 59]
def hasP (s p : List UInt8) : Bool := decide (p.length ≤ s.length) && s.take p.length == p
def sign3 (l : List UInt8) : Option (List UInt8) := [[61, 61], [38, 38], [124, 124]].find? (hasP l)
/-- The sign at the head of a text; empty without one. -/
def signAt (l : List UInt8) : List UInt8 := match sign3 l with
  | some p => p
  | none => match l with
    | b :: _ => if signs15.contains b then [b] else []
    | [] => []
def signM (t : List UInt8) : Bool := match t with
  | [b] => signs15.contains b
  | _ => t == [61, 61] || t == [38, 38] || t == [124, 124]
theorem byte_all {p : UInt8 → Prop} (h : ∀ n : Fin 256, p (UInt8.ofNat n.val)) (b : UInt8) : p b := by
  have h2 := h ⟨b.toNat, UInt8.toNat_lt b⟩
  have e : UInt8.ofNat b.toNat = b := by
    apply UInt8.toNat_inj.1
    simp
  simpa only [e] using h2
theorem signs_two (b : UInt8) : (signs17.contains b && (b != 38) && (b != 124)) = signs15.contains b :=
  byte_all (p := fun b => (signs17.contains b && (b != 38) && (b != 124)) = signs15.contains b) (by decide) b

theorem ib_neg (l : List UInt8) (c : UInt8) : indexByte l c < 0 ↔ l.contains c = false := by
  induction l with
  | nil => simp [indexByte]
  | cons b l ih =>
    have hge := indexByte_ge l c
    by_cases hb : b = c
    · subst hb
      simp [indexByte]
    · have h1 : (b == c) = false := by simpa using hb
      have h2 : (c == b) = false := by rw [Bool.beq_comm]; exact h1
      rw [List.contains_cons, h2, Bool.false_or, ← ih, indexByte]
      simp only [h1, Bool.false_eq_true, if_false]
      by_cases h3 : indexByte l c = -1
      · simp [h3]
      · have h4 : (indexByte l c == -1) = false := by simpa using h3
        simp only [h4, Bool.false_eq_true, if_false]
        omega
theorem isSign_plain (t : List UInt8) (ht : t ≠ []) : (signAt t == t) = signM t := by
  match t, ht with
  | [b], _ =>
    have h3 : sign3 [b] = none := by simp [sign3, hasP]
    simp only [signAt, h3, signM]
    cases signs15.contains b <;> simp
  | b :: c :: r, _ =>
    have hp : ∀ x y : UInt8, hasP (b :: c :: r) [x, y] = ([b, c] == [x, y]) := by intro x y; simp [hasP]
    simp only [signAt, sign3, List.find?_cons, List.find?_nil, hp, signM]
    cases r with
    | nil =>
      cases h1 : ([b, c] == [61, 61]) with
      | true => have := eq_of_beq h1; rw [this]; rfl
      | false =>
        cases h2 : ([b, c] == [38, 38]) with
        | true => have := eq_of_beq h2; rw [this]; rfl
        | false =>
          cases h3 : ([b, c] == [124, 124]) with
          | true => have := eq_of_beq h3; rw [this]; rfl
          | false => simp only [Bool.or_self]; split <;> simp
    | cons e r =>
      have n1 : ∀ x y : UInt8, ((b :: c :: e :: r) == [x, y]) = false := by intro x y; simp
      simp only [n1, Bool.or_self]
      cases h1 : ([b, c] == [61, 61]) with
      | true => simp
      | false =>
        cases h2 : ([b, c] == [38, 38]) with
        | true => simp
        | false =>
          cases h3 : ([b, c] == [124, 124]) with
          | true => simp
          | false => simp only; split <;> simp

/-! ### Quotes -/
def escB (b : UInt8) : List UInt8 := if b == 39 || b == 92 then [92, b] else [b]
/-- A text between quotes. -/
def quoteM (t : List UInt8) : List UInt8 := 39 :: (t.flatMap escB ++ [39])
theorem esc_len (t : List UInt8) : (t.flatMap escB).length ≤ 2 * t.length := by
  induction t with
  | nil => simp
  | cons b t ih =>
    simp only [List.flatMap_cons, List.length_append, List.length_cons]
    have : (escB b).length ≤ 2 := by unfold escB; split <;> simp
    omega
/-- Bytes as a slice holds them. -/
def bc (l : List UInt8) : List (List AV) := l.map fun b => [.int .u8 (b.toNat : Nat)]
theorem bc_app (a b : List UInt8) : bc (a ++ b) = bc a ++ bc b := by simp [bc]
theorem bc_len (l : List UInt8) : (bc l).length = l.length := by simp [bc]
theorem byteOf (b : UInt8) : byteOfCell [.int .u8 ((b.toNat : Nat) : Int)] = some b := by
  have := UInt8.toNat_lt b
  simp [byteOfCell]
theorem bc_bytes : ∀ l : List UInt8, allSome byteOfCell (bc l) = some l
  | [] => rfl
  | b :: l => by
    have ih := bc_bytes l
    simp only [bc, List.map_cons, allSome, byteOf, Option.bind_some] at ih ⊢
    rw [ih]
    rfl
end Go.X
