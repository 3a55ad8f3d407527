/- Tokens, compared, marked and held. -/
import Derived.Test.YtfifhpmcbfeadaaGreatDoorXD4
set_option linter.unusedVariables false
set_option linter.unusedSimpArgs false
set_option maxRecDepth 20000
namespace Go.X
open Go
variable {X : Call}

instance : BEq TokM := ⟨fun s t => s.kind == t.kind && s.place == t.place && s.text == t.text⟩
theorem TokM.refl (s : TokM) : (s == s) = true := by show (s.kind == s.kind && s.place == s.place && s.text == s.text) = true; simp
theorem TokM.reflS (l : List TokM) : (l == l) = true := by
  induction l with
  | nil => rfl
  | cons s l ih => show (s == s && l == l) = true; rw [TokM.refl, ih]; rfl
abbrev TokM.cells (s : TokM) : List AV := [int s.kind, int s.place, .str s.text]
/-- The token that a mark writes. -/
def mkTk (k : Nat) : TokM := ⟨k, ((k + 1 : Nat) : Int), mtext (k + 2)⟩
def mkT : Nat → Nat → List TokM
  | 0, _ => []
  | n + 1, k => mkTk k :: mkT n (k + 3)
theorem mkT_len : ∀ (n k : Nat), (mkT n k).length = n
  | 0, _ => rfl
  | n + 1, k => by simp [mkT, mkT_len n]
theorem take_set_succT {β : Type} (l : List β) (i : Nat) (x : β) (h : i < l.length) : (l.set i x).take (i + 1) = l.take i ++ [x] := by
  rw [List.take_add_one, List.take_set_of_le (Nat.le_refl _), List.getElem?_set_self h]
  rfl
theorem RTok.map_els {σ : Store} {l : List TokM} {els : List (List AV)} (h : All2 (RTok σ) l els) : els = l.map TokM.cells := (h.imp (fun m cs h => h.1)).eq_map
theorem mtext_len (k : Nat) : (mtext k).length ≤ k + 2 := by
  have key : ∀ (n k : Nat) (acc : List UInt8), (mgo n k acc).length ≤ acc.length + n := by
    intro n
    induction n with
    | zero => intro k acc; simp [mgo]
    | succ n ih =>
      intro k acc
      simp only [mgo]
      split
      · omega
      · have := ih (k / 10) (mdig k :: acc)
        simp only [List.length_cons] at this
        omega
  have := key k k []
  simp only [mtext]
  split
  · simp
  · simp only [List.length_nil, List.length_cons] at this ⊢; omega
theorem mkT_ok : ∀ (n k : Nat), k + 3 * n ≤ 100000000 → ∀ s ∈ mkT n k, I64 s.kind ∧ I64 s.place ∧ LenOk s.text.length
  | 0, _, _, s, hs => by cases hs
  | n + 1, k, h, s, hs => by
    rcases List.mem_cons.1 hs with rfl | hs
    · have := mtext_len (k + 2)
      refine ⟨by simp only [mkTk, I64]; omega, by simp only [mkTk, I64]; omega, by simp only [mkTk, LenOk]; omega⟩
    · exact mkT_ok n (k + 3) (by omega) s hs
theorem mkT_get : ∀ (n k i : Nat), i < n → (mkT n k)[i]? = some (mkTk (k + 3 * i))
  | 0, _, _, h => by omega
  | n + 1, k, 0, _ => by simp [mkT]
  | n + 1, k, i + 1, h => by
    have := mkT_get n (k + 3) i (by omega)
    simp only [mkT, List.getElem?_cons_succ, this, Option.some.injEq]
    congr 1; omega
end Go.X
