/- Printed by hand: connections: what the functions on them come to. -/
import Derived.Test.YtfifhpmcbfeadaaGreatDoorXM1
set_option linter.unusedVariables false
set_option linter.unusedSimpArgs false
set_option maxRecDepth 20000
namespace Go.X
open Go
variable {X : Call}

theorem within_eq (a b c : Int) (σ : Store) : EE X f_impl_within [int a, int b, int c] σ = some (.bool (decide (b ≤ a) && decide (a ≤ c)), σ) := by
  rw [EE, Ex_run C_impl_within rfl]
  simp (config := {contextual := true, implicitDefEqProofs := false, maxSteps := 1000000}) only [
    ↓PR0, ↓PR1, ↓PR2, PO0, PO1, PO2, PO3, idxV_str, result, resOf, allSome, number, upd, List.map, Option.bind_some, Nat.reduceAdd, Nat.reduceSub, Nat.reduceLeDiff, Nat.reduceLT, Nat.reduceEqDiff, Nat.zero_add, Nat.add_zero, Nat.le_refl, 
    reduceIte, ne_eq, not_false_eq_true, and_self, true_and, and_true, reduceCtorEq, cond_true, cond_false, c_impl_within]
  cases decide (b ≤ a) <;> rfl
theorem l01In_eq (a b c : Int) (σ : Store) : EE X f_spec_l01In [int a, int b, int c] σ = some (.bool (decide (b ≤ a) && decide (a ≤ c)), σ) := by
  rw [EE, Ex_run C_spec_l01In rfl]
  simp (config := {contextual := true, implicitDefEqProofs := false, maxSteps := 1000000}) only [
    ↓PR0, ↓PR1, ↓PR2, PO0, PO1, PO2, PO3, idxV_str, result, resOf, allSome, number, upd, List.map, Option.bind_some, Nat.reduceAdd, Nat.reduceSub, Nat.reduceLeDiff, Nat.reduceLT, Nat.reduceEqDiff, Nat.zero_add, Nat.add_zero, Nat.le_refl, 
    reduceIte, ne_eq, not_false_eq_true, and_self, true_and, and_true, reduceCtorEq, cond_true, cond_false, c_spec_l01In]
  cases decide (b ≤ a) <;> rfl

structure SlotM where
  seq : Int
  ready : Bool
  text : List UInt8
abbrev SlotM.cells (s : SlotM) : List AV := [int s.seq, .bool s.ready, .str s.text]
instance : BEq SlotM := ⟨fun s t => s.seq == t.seq && s.ready == t.ready && s.text == t.text⟩
theorem SlotM.refl (s : SlotM) : (s == s) = true := by show (s.seq == s.seq && s.ready == s.ready && s.text == s.text) = true; simp
def SlotM.size (s : SlotM) : Nat := s.text.length
def RSlot : Rp SlotM := fun _ m cs => cs = m.cells ∧ I64 m.seq ∧ LenOk m.text.length
theorem RSlot.mono : Mono RSlot := fun _ _ _ _ h => h
theorem RSlot.sized : Sized RSlot 3 := fun _ _ _ h => by rw [h.1]; rfl

structure ConnM where
  opn : Bool
  ending : Bool
  inp : List UInt8
  slots : List SlotM
  next : Int
instance : BEq ConnM := ⟨fun s t => s.opn == t.opn && s.ending == t.ending && s.inp == t.inp && s.slots == t.slots && s.next == t.next⟩
def ConnM.size (s : ConnM) : Nat := s.inp.length + (s.slots.length + sumS SlotM.size s.slots)
def RConn : Rp ConnM := fun σ m cs => ∃ a, cs = [.bool m.opn, .bool m.ending, .str m.inp, a, int m.next] ∧ RS RSlot 3 σ m.slots a ∧ I64 m.next ∧ LenOk m.inp.length ∧ LenOk m.slots.length
/-- One whose slots lie in rows of the store's own. -/
def RConnO (lo hi : Nat) : Rp ConnM := fun σ m cs => ∃ a, cs = [.bool m.opn, .bool m.ending, .str m.inp, a, int m.next] ∧ RSO (fun _ _ => RSlot) 3 lo hi σ m.slots a ∧ I64 m.next ∧ LenOk m.inp.length ∧ LenOk m.slots.length
theorem RConnO.rc {lo hi : Nat} {σ : Store} {m : ConnM} {cs : List AV} (h : RConnO lo hi σ m cs) : RConn σ m cs := by
  obtain ⟨a, h1, ⟨h2, _⟩, h3⟩ := h
  exact ⟨a, h1, h2, h3⟩
theorem RConn.mono : Mono RConn := fun σ ext m cs ⟨a, h1, h2, h3⟩ => ⟨a, h1, h2.mono RSlot.mono ext, h3⟩
theorem RConn.sized : Sized RConn 5 := fun _ _ _ ⟨a, h1, _⟩ => by rw [h1]; rfl

end Go.X
