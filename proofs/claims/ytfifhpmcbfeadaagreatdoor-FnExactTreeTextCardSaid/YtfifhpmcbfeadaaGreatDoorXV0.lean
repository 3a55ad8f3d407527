/- Choices that are drawn out of bytes: what the source of choices comes to. -/
import Derived.Test.YtfifhpmcbfeadaaGreatDoorXE
import Derived.Test.YtfifhpmcbfeadaaGreatDoorY6
set_option linter.unusedVariables false
set_option linter.unusedSimpArgs false
set_option maxRecDepth 20000
namespace Go.X
open Go
variable {X : Call}

/-- The slice does not lie in row p. -/
def Off (a : AV) (p : Nat) : Prop := ∀ r v i n, a = .sl r v i n → r ≠ p
theorem SlAt.frA {W : Nat → Prop} {σ σ' : Store} {sz : Nat} {a : AV} {els : List (List AV)} (h : SlAt σ sz a els) (k : Fr W σ σ') (hw : ∀ r v i n, a = .sl r v i n → ¬ W r) : SlAt σ' sz a els := by
  rcases h.cases with ⟨rfl, rfl⟩ | ⟨r, v, s, n, row, rfl, hr, hs, hn, e, hl⟩
  · rfl
  · rw [e]; exact SlAt.mk (rowAt_dep hr (k.2 r (rowAt_lt hr) (hw r v s n rfl))) hs hn
theorem RS.frA {α : Type} {P : α → List AV → Prop} {W : Nat → Prop} {σ σ' : Store} {sz : Nat} {a : AV} {l : List α} (h : RS (fun _ => P) sz σ l a) (k : Fr W σ σ') (hw : ∀ r v i n, a = .sl r v i n → ¬ W r) : RS (fun _ => P) sz σ' l a := by
  obtain ⟨els, h1, h2⟩ := h
  exact ⟨els, h1.frA k hw, h2⟩

/-- The slice lies in a row before p. -/
def Bel (a : AV) (p : Nat) : Prop := ∀ r v i n, a = .sl r v i n → r < p
/-- A source of choices in row p, from which at most N bytes were taken. -/
def Src (σ : Store) (p N : Nat) : Prop := ∃ a, ∃ n : Nat, ∃ (sd : Int) (bytes : List UInt8), ObjAt σ p [a, int n, int sd] ∧ RS RByte 1 σ bytes a ∧ Bel a p ∧ n ≤ N ∧ 0 ≤ sd ∧ sd < 2147483648 ∧ bytes.length ≤ 2000000
theorem Src.more {σ : Store} {p N N' : Nat} (h : Src σ p N) (hn : N ≤ N') : Src σ p N' := by
  obtain ⟨a, n, sd, bytes, h1, h2, h3, h4, h5⟩ := h
  exact ⟨a, n, sd, bytes, h1, h2, h3, Nat.le_trans h4 hn, h5⟩
theorem Src.pre {σ σ' : Store} {p N : Nat} (h : Src σ p N) (k : Pre σ σ') : Src σ' p N := by
  obtain ⟨a, n, sd, bytes, h1, h2, h3, h4⟩ := h
  exact ⟨a, n, sd, bytes, h1.pre k, h2.pre RByte.mono k, h3, h4⟩
theorem Src.fr {W : Nat → Prop} {σ σ' : Store} {p N : Nat} (h : Src σ p N) (k : Fr W σ σ') (hp : ∀ q, q ≤ p → ¬ W q) : Src σ' p N := by
  obtain ⟨a, n, sd, bytes, h1, h2, h3, h4⟩ := h
  exact ⟨a, n, sd, bytes, h1.fr k (hp p (Nat.le_refl _)), RS.frA (P := fun (b : UInt8) cs => cs = [.int .u8 (b.toNat : Nat)]) h2 k (fun r v i n e => hp r (Nat.le_of_lt (h3 r v i n e))), h3, h4⟩
theorem Src.lt {σ : Store} {p N : Nat} (h : Src σ p N) : p < σ.length := by
  obtain ⟨a, n, sd, bytes, h1, _⟩ := h
  exact h1.lt

end Go.X
