/- GoX, part 23: parts of slices. No statement of the seat is here. -/
import Derived.Test.YtlliifjmnddckaaDoorX22
set_option linter.unusedVariables false
set_option linter.unusedSimpArgs false
set_option maxRecDepth 20000
namespace Go.X
open Go
variable {α β R : Type}

/-- n elements from lo on. -/
def subA (a : AV) (lo n : Nat) : AV := match a with | .sl r v i _ => .sl r v (i + lo) n | x => x
theorem SlAt.slcV {st : Store} {sz : Nat} {a : AV} {els : List (List AV)} (h : SlAt st sz a els) (g : Regs) (l hh : Option XO) :
    Go.X.slcV g st sz l hh a = th (bnd g 0 l) (fun lo => th (bnd g els.length hh) (fun hi => if 0 ≤ lo ∧ lo ≤ hi ∧ hi ≤ (els.length : Int) then some (subA a lo.toNat (hi.toNat - lo.toNat)) else none)) := by
  rcases h.cases with ⟨rfl, rfl⟩ | ⟨r, v, i, n, row, rfl, hr, hs, hn, he, hl⟩
  · simp only [Go.X.slcV, th, List.length_nil]
    cases bnd g 0 l with
    | none => rfl
    | some lo =>
      simp only [Option.bind_some]
      cases bnd g 0 hh with
      | none => rfl
      | some hi =>
        simp only [Option.bind_some, subA]
        by_cases hc : lo = 0 ∧ hi = 0
        · rw [if_pos hc, if_pos (by omega)]
        · rw [if_neg hc, if_neg (by simp only [Int.cast_ofNat_Int]; omega)]
  · have hst : st[r]? = some row := by
      cases hq : st[r]? with
      | none => simp [rowAt, hq] at hr
      | some x =>
        simp only [rowAt, hq, Option.bind_some] at hr
        split at hr
        · exact hr
        · cases hr
    simp only [Go.X.slcV, hst, Option.bind_some, th, hl]
    cases bnd g 0 l with
    | none => rfl
    | some lo =>
      simp only [Option.bind_some]
      cases bnd g n hh with
      | none => rfl
      | some hi =>
        simp only [Option.bind_some, subA, hs, true_and]
theorem SlAt.sub {st : Store} {sz : Nat} {a : AV} {els : List (List AV)} (h : SlAt st sz a els) (lo n : Nat) (hn : lo + n ≤ els.length) : SlAt st sz (subA a lo n) ((els.drop lo).take n) := by
  rcases h.cases with ⟨rfl, rfl⟩ | ⟨r, v, i, m, row, rfl, hr, hs, hm, he, hl⟩
  · simp at hn ⊢; exact SlAt.nil _ _
  · have h := SlAt.mk (i := i + lo) (n := n) hr hs (by omega)
    have e : ((els.drop lo).take n) = (row.els.drop (i + lo)).take n := by
      rw [he, List.drop_take, List.take_take, List.drop_drop]
      congr 1
      omega
    rw [e]
    exact h
theorem SlAt.subTo {st : Store} {sz : Nat} {a : AV} {els : List (List AV)} (h : SlAt st sz a els) (lo : Nat) (hn : lo ≤ els.length) : SlAt st sz (subA a lo (els.length - lo)) (els.drop lo) := by
  have := h.sub lo (els.length - lo) (by omega)
  rwa [List.take_of_length_le (by simp)] at this
theorem KA.sub {K : Nat → Row → Prop} {st : Store} {a : AV} (h : KA K st a) (lo n : Nat) : KA K st (subA a lo n) := by
  intro r v i m e
  cases a with
  | sl r' v' i' m' => cases e; exact h r v i' m' rfl
  | _ => cases e
theorem subA_cells {st : Store} {sz : Nat} {a : AV} {els : List (List AV)} (h : SlAt st sz a els) (lo n : Nat) : cellsOf (subA a lo n) = some [subA a lo n] := by
  rcases h.cases with ⟨rfl, rfl⟩ | ⟨r, v, i, m, row, rfl, _⟩ <;> rfl
end Go.X
