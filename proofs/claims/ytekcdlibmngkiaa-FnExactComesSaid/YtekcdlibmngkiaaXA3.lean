/- What comes of calls, as plain laws. No program is here. -/
import Derived.Test.YtekcdlibmngkiaaXL18
set_option linter.unusedVariables false
set_option linter.unusedSimpArgs false
namespace Go.X
open Go

def listOf (m : TreeM) (t : List UInt8) : List (List UInt8) := callsM m 200 (funcOf m t) []
def addAll : List (List UInt8) → List (List UInt8) → List (List UInt8) → List (List UInt8) × List (List UInt8)
  | [], out, todo => (out, todo)
  | n :: l, out, todo => if out.any (fun x => n == x) = true then addAll l out todo else addAll l (out ++ [n]) (todo ++ [n])
def comesM (m : TreeM) : Nat → List (List UInt8) → List (List UInt8) → List (List UInt8)
  | 0, out, _ => out
  | _ + 1, out, [] => out
  | f + 1, out, t :: todo => comesM m f (addAll (listOf m t) out todo).1 (addAll (listOf m t) out todo).2
def scomes (m : TreeM) (to : List UInt8) : Nat → List (List UInt8) → List (List UInt8) → Bool
  | 0, _, _ => false
  | _ + 1, _, [] => false
  | f + 1, out, t :: todo => (listOf m t).any (fun x => x == to) || scomes m to f (addAll (listOf m t) out todo).1 (addAll (listOf m t) out todo).2
theorem addAll_cons (t : List UInt8) : ∀ (l out todo : List (List UInt8)), addAll l out (t :: todo) = ((addAll l out todo).1, t :: (addAll l out todo).2)
  | [], out, todo => rfl
  | n :: l, out, todo => by
    simp only [addAll]
    split
    · exact addAll_cons t l out todo
    · exact addAll_cons t l _ _
theorem addAll_mono (to : List UInt8) : ∀ (l out todo : List (List UInt8)), out.any (fun x => to == x) = true → (addAll l out todo).1.any (fun x => to == x) = true
  | [], out, todo, h => h
  | n :: l, out, todo, h => by
    simp only [addAll]
    split
    · exact addAll_mono to l out todo h
    · exact addAll_mono to l _ _ (by rw [List.any_append, h, Bool.true_or])
theorem addAll_in (to : List UInt8) : ∀ (l out todo : List (List UInt8)), l.any (fun x => x == to) = true → (addAll l out todo).1.any (fun x => to == x) = true
  | [], out, todo, h => by cases h
  | n :: l, out, todo, h => by
    simp only [addAll]
    rw [List.any_cons, Bool.or_eq_true] at h
    split
    · rename_i hn
      rcases h with h | h
      · have : n = to := by simpa using h
        subst this
        exact addAll_mono n l out todo hn
      · exact addAll_in to l out todo h
    · rcases h with h | h
      · have : n = to := by simpa using h
        subst this
        exact addAll_mono n l _ _ (by simp)
      · exact addAll_in to l _ _ h
theorem addAll_out (to : List UInt8) : ∀ (l out todo : List (List UInt8)), l.any (fun x => x == to) = false → out.any (fun x => to == x) = false → (addAll l out todo).1.any (fun x => to == x) = false
  | [], out, todo, _, h => h
  | n :: l, out, todo, h1, h2 => by
    simp only [addAll]
    rw [List.any_cons, Bool.or_eq_false_iff] at h1
    split
    · exact addAll_out to l out todo h1.2 h2
    · refine addAll_out to l _ _ h1.2 ?_
      rw [List.any_append, h2, Bool.false_or]
      have : (to == n) = (n == to) := Bool.beq_comm
      simp [this, h1.1]
theorem comesM_mono (m : TreeM) (to : List UInt8) : ∀ f out todo, out.any (fun x => to == x) = true → (comesM m f out todo).any (fun x => to == x) = true
  | 0, out, _, h => h
  | f + 1, out, [], h => h
  | f + 1, out, t :: todo, h => comesM_mono m to f _ _ (addAll_mono to _ _ _ h)
theorem scomes_eq (m : TreeM) (to : List UInt8) : ∀ f out todo, out.any (fun x => to == x) = false → scomes m to f out todo = (comesM m f out todo).any (fun x => to == x)
  | 0, out, _, h => by simp only [scomes, comesM, h]
  | f + 1, out, [], h => by simp only [scomes, comesM, h]
  | f + 1, out, t :: todo, h => by
    simp only [scomes, comesM]
    cases hl : (listOf m t).any (fun x => x == to) with
    | true => rw [Bool.true_or, comesM_mono m to f _ _ (addAll_in to _ _ _ hl)]
    | false => rw [Bool.false_or, scomes_eq m to f _ _ (addAll_out to _ _ _ hl h)]

/-! ### Bounds -/

theorem callsL_in {m : TreeM} (w : Int → List (List UInt8) → List (List UInt8)) (P : List (List UInt8) → Prop) (hw : ∀ c out, P out → P (w c out)) : ∀ cs out, P out → P (callsL w m cs out)
  | [], out, h => h
  | c :: cs, out, h => by
    simp only [callsL]
    apply callsL_in w P hw cs
    split
    · exact h
    · exact hw c out h
theorem callsM_in {m : TreeM} : ∀ f k out, (∀ t ∈ out, (namesM m).any (fun x => t == x) = true) → ∀ t ∈ callsM m f k out, (namesM m).any (fun x => t == x) = true
  | 0, k, out, h => h
  | f + 1, k, out, h => by
    simp only [callsM]
    split
    · exact h
    · rename_i n hn
      have h2 := callsL_in (m := m) (callsM m f) (fun o => ∀ t ∈ o, (namesM m).any (fun x => t == x) = true) (fun c o ho => callsM_in f c o ho) n.kids out h
      unfold callM
      split
      · rename_i hc
        simp only [Bool.and_eq_true] at hc
        intro t ht
        rcases List.mem_append.1 ht with ht | ht
        · exact h2 t ht
        · rw [List.mem_singleton] at ht; subst ht; exact hc.2.1
      · exact h2
theorem listOf_in {m : TreeM} (t : List UInt8) : ∀ x ∈ listOf m t, (namesM m).any (fun y => x == y) = true := callsM_in _ _ _ (fun t ht => by cases ht)
/-- A round of the work. -/
theorem addAll_ok {names : List (List UInt8)} : ∀ (l out todo : List (List UInt8)), (∀ x ∈ l, names.any (fun y => x == y) = true) → okN names out → (∀ x ∈ todo, names.any (fun y => x == y) = true) →
    okN names (addAll l out todo).1 ∧ (∀ x ∈ (addAll l out todo).2, names.any (fun y => x == y) = true) ∧ cntN names (addAll l out todo).1 + (addAll l out todo).2.length ≤ cntN names out + todo.length
  | [], out, todo, _, h2, h3 => ⟨h2, h3, Nat.le_refl _⟩
  | n :: l, out, todo, h1, h2, h3 => by
    simp only [addAll]
    split
    · exact addAll_ok l out todo (fun x hx => h1 x (List.mem_cons_of_mem _ hx)) h2 h3
    · rename_i hn
      have hn' : out.any (fun x => n == x) = false := Bool.eq_false_iff.2 hn
      have hnn := h1 n (by simp)
      have ih := addAll_ok l (out ++ [n]) (todo ++ [n]) (fun x hx => h1 x (List.mem_cons_of_mem _ hx)) (h2.add hnn hn') (fun x hx => by
        rcases List.mem_append.1 hx with hx | hx
        · exact h3 x hx
        · rw [List.mem_singleton] at hx; subst hx; exact hnn)
      refine ⟨ih.1, ih.2.1, ?_⟩
      have hlt := cntN_add names out n hnn hn'
      have := ih.2.2
      simp only [List.length_append, List.length_cons, List.length_nil] at this
      omega
theorem fst_funcOf {m : TreeM} {t : List UInt8} : ∀ (l : List Int), ((l.filter (fun k => kindM m k == 20)).map (textM m)).any (fun x => t == x) = true →
    ∃ i : Nat, fstI (fun x => t == x) ((l.filter (fun k => kindM m k == 20)).map (textM m)) = (i : Int) ∧ (l.filter (fun k => kindM m k == 20))[i]? = some (funcOfL m t l)
  | [], h => by cases h
  | k :: l, h => by
    rw [funcOfL]
    rw [List.filter_cons] at h ⊢
    cases h1 : kindM m k == 20 with
    | false =>
      rw [h1] at h
      simp only [Bool.false_eq_true, if_false, Bool.false_and] at h ⊢
      exact fst_funcOf l h
    | true =>
      rw [h1] at h
      simp only [if_true, Bool.true_and, List.map_cons, List.any_cons] at h ⊢
      have hbe : (t == textM m k) = (textM m k == t) := Bool.beq_comm
      cases h2 : textM m k == t with
      | true => exact ⟨0, by rw [fstI_cons, hbe, h2, if_pos rfl]; rfl, rfl⟩
      | false =>
        rw [hbe, h2, Bool.false_or] at h
        obtain ⟨i, e1, e2⟩ := fst_funcOf l h
        refine ⟨i + 1, ?_, by simpa using e2⟩
        rw [fstI_cons, hbe, h2, if_neg (by decide), e1, if_neg (by omega)]; rfl
theorem funcOf_at {m : TreeM} (hR : RightT m) {t : List UInt8} (h : (namesM m).any (fun x => t == x) = true) : ∃ i : Nat, fstI (fun x => t == x) (namesM m) = (i : Int) ∧ (funcsM m)[i]? = some (funcOf m t) := fst_funcOf (m := m) (t := t) (kidsM m m.root) h
end Go.X
