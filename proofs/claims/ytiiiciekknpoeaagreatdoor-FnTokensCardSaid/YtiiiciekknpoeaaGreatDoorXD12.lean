/- Reading tokens: a whole text. -/
import Derived.Test.YtiiiciekknpoeaaGreatDoorXD10
import Derived.Test.YtiiiciekknpoeaaGreatDoorXD11
set_option linter.unusedVariables false
set_option linter.unusedSimpArgs false
set_option maxRecDepth 20000
namespace Go.X
open Go Go.Lib
variable {X : Call}

def blB (b : UInt8) : Bool := b == 32 || b == 9 || b == 10
/-- The tokens of a text from a place on, behind those that were read: the tokens, a place, a code. -/
def lexGo (t : List UInt8) : Nat → Nat → List TokM → List TokM × Int × Int
  | 0, _, out => (out, 0, 0)
  | f + 1, p, out =>
    match t[p]? with
    | none => (out, 0, 0)
    | some b =>
      if blB b = true then lexGo t f (p + 1) out
      else if out.length = 300 then ([], p, 6)
      else match lexM (t.drop p) with
        | none => ([], p, 3)
        | some (k, w, n) => lexGo t f (p + n) (out ++ [⟨k, p, w⟩])
theorem qM_len : ∀ {l : List UInt8} {b : UInt8} {x : List UInt8} {u : Nat}, quotedM l = some (x, u) → x.length ≤ (b :: l).length + 2 := by
  have key : ∀ (n : Nat) (l : List UInt8) (x : List UInt8) (u : Nat), l.length ≤ n → quotedM l = some (x, u) → x.length ≤ l.length := by
    intro n
    induction n with
    | zero =>
      intro l x u hl h
      cases l with
      | nil => cases h
      | cons b r => simp at hl
    | succ n ih =>
      intro l x u hl h
      cases l with
      | nil => cases h
      | cons b r =>
        cases h39 : b == 39 with
        | true => rw [qM_quote h39] at h; cases h; simp
        | false =>
          cases h92 : b == 92 with
          | false =>
            rw [qM_other h39 h92] at h
            split at h
            · obtain ⟨y, hy, he⟩ := Option.map_eq_some_iff.1 h
              cases he
              have := ih r y.1 y.2 (by simpa using hl) hy
              simp only [List.length_cons]; omega
            · cases h
          | true =>
            cases r with
            | nil => rw [qM_esc0 h39] at h; cases h
            | cons c r =>
              rw [qM_esc h39 h92] at h
              split at h
              · obtain ⟨y, hy, he⟩ := Option.map_eq_some_iff.1 h
                cases he
                have := ih r y.1 y.2 (by simp only [List.length_cons] at hl; omega) hy
                simp only [List.length_cons]; omega
              · cases h
  intro l b x u h
  have := key l.length l x u (Nat.le_refl _) h
  simp only [List.length_cons]; omega
theorem lexM_pos {l : List UInt8} {k : Int} {w : List UInt8} {n : Nat} (h : lexM l = some (k, w, n)) : 1 ≤ n ∧ w.length ≤ l.length + 2 ∧ 0 ≤ k ∧ k ≤ 5 := by
  cases l with
  | nil => cases h
  | cons b r =>
    simp only [lexM] at h
    split at h
    · rename_i hl
      have hb : ldB b = true := by simp only [ldB, hl, Bool.true_or]
      split at h
      · simp only [Option.some.injEq, Prod.mk.injEq] at h
        obtain ⟨rfl, rfl, rfl⟩ := h
        refine ⟨run_pos hb, by rw [List.length_take]; omega, ?_⟩
        split <;> decide
      · cases h
    · split at h
      · rename_i hd
        split at h
        · simp only [Option.some.injEq, Prod.mk.injEq] at h
          obtain ⟨rfl, rfl, rfl⟩ := h
          exact ⟨run_pos (p := digB) hd, by rw [List.length_take]; omega, by decide, by decide⟩
        · cases h
      · split at h
        · split at h
          · rename_i x u hq
            split at h
            · simp only [Option.some.injEq, Prod.mk.injEq] at h
              obtain ⟨rfl, rfl, rfl⟩ := h
              exact ⟨by omega, qM_len hq, by decide, by decide⟩
            · cases h
          · cases h
        · split at h
          · cases h
          · rename_i hs
            simp only [Option.some.injEq, Prod.mk.injEq] at h
            obtain ⟨rfl, rfl, rfl⟩ := h
            have := signAt_len (b :: r)
            have h0 : 0 < (signAt (b :: r)).length := by
              cases hx : signAt (b :: r) with
              | nil => exact (hs hx).elim
              | cons _ _ => simp
            exact ⟨h0, by omega, by decide, by decide⟩
theorem lexGo_skip (t : List UInt8) (out : List TokM) : ∀ j f p, j ≤ runN blB (t.drop p) → lexGo t (j + f) p out = lexGo t f (p + j) out
  | 0, f, p, _ => by simp
  | j + 1, f, p, h => by
    cases hp : t[p]? with
    | none =>
      have : t.drop p = [] := List.drop_eq_nil_of_le (by rw [List.getElem?_eq_none_iff] at hp; exact hp)
      rw [this] at h
      simp [runN] at h
    | some b =>
      have hlt : p < t.length := by
        rcases Nat.lt_or_ge p t.length with h' | h'
        · exact h'
        · rw [List.getElem?_eq_none h'] at hp; cases hp
      rw [List.getElem?_eq_getElem hlt, Option.some.injEq] at hp
      rw [List.drop_eq_getElem_cons hlt, hp] at h
      simp only [runN] at h
      have hb : blB b = true := by
        cases hb : blB b with
        | true => rfl
        | false => rw [hb] at h; simp at h
      rw [if_pos hb] at h
      have ih := lexGo_skip t out j f (p + 1) (by omega)
      have e1 : j + 1 + f = (j + f) + 1 := by omega
      have e2 : p + (j + 1) = p + 1 + j := by omega
      rw [e1, e2, ← ih, lexGo, List.getElem?_eq_getElem hlt, hp]
      simp only [hb, if_true]
/-- The tokens of a list lie in a row. -/
def cK (l : List TokM) : List (List AV) := l.map TokM.cells
theorem cK_app (a b : List TokM) : cK (a ++ b) = cK a ++ cK b := by simp [cK]
theorem cK_len (l : List TokM) : (cK l).length = l.length := by simp [cK]
def tokOk (s : TokM) : Prop := I64 s.kind ∧ I64 s.place ∧ LenOk s.text.length
theorem cK_all {l : List TokM} (h : ∀ s ∈ l, tokOk s) (σ : Store) : All2 (RTok σ) l (cK l) := All2.map (fun s hs => ⟨rfl, h s hs⟩)
theorem b32i (a : UInt8) : ((((a.toNat : Nat) : Int)) == 32) = (a == 32) := by
  rw [Bool.eq_iff_iff]; simp only [beq_iff_eq]
  constructor
  · intro h; apply UInt8.toNat_inj.1; have : a.toNat = 32 := by omega
    rw [this]; rfl
  · intro h; subst h; rfl
theorem b9i (a : UInt8) : ((((a.toNat : Nat) : Int)) == 9) = (a == 9) := by
  rw [Bool.eq_iff_iff]; simp only [beq_iff_eq]
  constructor
  · intro h; apply UInt8.toNat_inj.1; have : a.toNat = 9 := by omega
    rw [this]; rfl
  · intro h; subst h; rfl
theorem b10i (a : UInt8) : ((((a.toNat : Nat) : Int)) == 10) = (a == 10) := by
  rw [Bool.eq_iff_iff]; simp only [beq_iff_eq]
  constructor
  · intro h; apply UInt8.toNat_inj.1; have : a.toNat = 10 := by omega
    rw [this]; rfl
  · intro h; subst h; rfl
theorem isBlank_eq (b : UInt8) (σ : Store) : EE X f_impl_isBlank [.int .u8 (b.toNat : Nat)] σ = some (.bool (blB b), σ) := by
  rw [EE, Ex_run C_impl_isBlank rfl]
  simp only [blB]
  cases h1 : b == 32 with
  | true => simp (config := {contextual := true, implicitDefEqProofs := false, maxSteps := 1000000}) only [
    ↓PR0, ↓PR1, ↓PR2, PO0, PO1, PO2, PO3, idxV_str, result, resOf, allSome, number, upd, List.map, Option.bind_some, Nat.reduceAdd, Nat.reduceSub, Nat.reduceLeDiff, Nat.reduceLT, Nat.reduceEqDiff, Nat.zero_add, Nat.add_zero, Nat.le_refl, 
    reduceIte, ne_eq, not_false_eq_true, and_self, true_and, and_true, reduceCtorEq, cond_true, cond_false, c_impl_isBlank, b32i, h1, Bool.true_or]
  | false =>
    cases h2 : b == 9 with
    | true => simp (config := {contextual := true, implicitDefEqProofs := false, maxSteps := 1000000}) only [
    ↓PR0, ↓PR1, ↓PR2, PO0, PO1, PO2, PO3, idxV_str, result, resOf, allSome, number, upd, List.map, Option.bind_some, Nat.reduceAdd, Nat.reduceSub, Nat.reduceLeDiff, Nat.reduceLT, Nat.reduceEqDiff, Nat.zero_add, Nat.add_zero, Nat.le_refl, 
    reduceIte, ne_eq, not_false_eq_true, and_self, true_and, and_true, reduceCtorEq, cond_true, cond_false, c_impl_isBlank, b32i, h1, b9i, h2, Bool.true_or, Bool.false_or]
    | false => simp (config := {contextual := true, implicitDefEqProofs := false, maxSteps := 1000000}) only [
    ↓PR0, ↓PR1, ↓PR2, PO0, PO1, PO2, PO3, idxV_str, result, resOf, allSome, number, upd, List.map, Option.bind_some, Nat.reduceAdd, Nat.reduceSub, Nat.reduceLeDiff, Nat.reduceLT, Nat.reduceEqDiff, Nat.zero_add, Nat.add_zero, Nat.le_refl, 
    reduceIte, ne_eq, not_false_eq_true, and_self, true_and, and_true, reduceCtorEq, cond_true, cond_false, c_impl_isBlank, b32i, h1, b9i, h2, b10i, Bool.false_or]
end Go.X
