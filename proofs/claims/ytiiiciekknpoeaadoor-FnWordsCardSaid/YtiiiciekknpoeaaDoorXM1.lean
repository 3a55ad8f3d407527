/- The texts that the laws' marks write. -/
import Derived.Test.YtiiiciekknpoeaaDoorXE
set_option linter.unusedVariables false
set_option linter.unusedSimpArgs false
set_option maxRecDepth 20000
namespace Go.X
open Go
variable {X : Call}
theorem finK_pop {res : List XRes} {st : Store} {g : Regs} {bx : Boxes} {ext : Store} {a : AV} (h : result (g, ⟨bx, st ++ ext⟩) res = some a) (hb : below st.length a = true) : finK res true st .ret (g, ⟨bx, st ++ ext⟩) = some (a, st) := by
  simp only [finK, h, Option.bind_some, if_true, List.take_left, hb, and_self]

def mdig (k : Nat) : UInt8 := UInt8.ofNat (48 + k % 10)
def mgo : Nat → Nat → List UInt8 → List UInt8
  | 0, _, acc => acc
  | n + 1, k, acc => if k = 0 then acc else mgo n (k / 10) (mdig k :: acc)
/-- The text of a mark. -/
def mtext (k : Nat) : List UInt8 := if k = 0 then [109, 48] else 109 :: mgo k k []

theorem markText_loop {R : Type} (σ : Store) (kk : Out → S → Option R) : ∀ (n k : Nat) (acc : List UInt8) (ext : Store), k ≤ n → acc.length + n ≤ 1000000000 → ∃ ext',
    loopK (EE X) [0, 3] l_laws_markText_0 ([(0, .v (int k)), (3, .v (.str acc))], ⟨[], σ ++ ext⟩) kk = kk (.exit 0) ([(0, .v (int 0)), (3, .v (.str (mgo n k acc))), (7, .v (.bool false))], ⟨[], σ ++ ext'⟩) := by
  intro n
  induction n with
  | zero =>
    intro k acc ext hk hb
    have e : k = 0 := by omega
    subst e
    refine ⟨ext, ?_⟩
    rw [loopK_step l_laws_markText_0.eq_1]
    simp (config := {contextual := true, implicitDefEqProofs := false, maxSteps := 1000000}) only [
    ↓PR0, ↓PR1, ↓PR2, PO0, PO1, PO2, PO3, idxV_str, result, resOf, allSome, number, upd, List.map, Option.bind_some, Nat.reduceAdd, Nat.reduceSub, Nat.reduceLeDiff, Nat.reduceLT, Nat.reduceEqDiff, Nat.zero_add, Nat.add_zero, Nat.le_refl, 
    reduceIte, ne_eq, not_false_eq_true, and_self, true_and, and_true, reduceCtorEq, cond_true, cond_false, Int.cast_ofNat_Int, Int.lt_irrefl, decide_false, mgo]
  | succ n ih =>
    intro k acc ext hk hb
    by_cases h0 : k = 0
    · subst h0
      refine ⟨ext, ?_⟩
      rw [loopK_step l_laws_markText_0.eq_1]
      simp (config := {contextual := true, implicitDefEqProofs := false, maxSteps := 1000000}) only [
    ↓PR0, ↓PR1, ↓PR2, PO0, PO1, PO2, PO3, idxV_str, result, resOf, allSome, number, upd, List.map, Option.bind_some, Nat.reduceAdd, Nat.reduceSub, Nat.reduceLeDiff, Nat.reduceLT, Nat.reduceEqDiff, Nat.zero_add, Nat.add_zero, Nat.le_refl, 
    reduceIte, ne_eq, not_false_eq_true, and_self, true_and, and_true, reduceCtorEq, cond_true, cond_false, Int.cast_ofNat_Int, Int.lt_irrefl, decide_false, mgo]
    · have hpos : (0 : Int) < (k : Int) := by omega
      have hrem : (k : Int).tmod 10 = ((k % 10 : Nat) : Int) := by rw [Int.tmod_eq_emod_of_nonneg (by omega)]; omega
      have hquo : IntKind.i64.wrap ((k : Int).tdiv 10) = ((k / 10 : Nat) : Int) := by rw [Int.tdiv_eq_ediv_of_nonneg (by omega), wrap64 (by omega) (by omega)]; omega
      have hw : IntKind.i64.wrap (48 + ((k % 10 : Nat) : Int)) = 48 + ((k % 10 : Nat) : Int) := wrap64 (by omega) (by omega)
      have hu : IntKind.u8.wrap (48 + ((k % 10 : Nat) : Int)) = 48 + ((k % 10 : Nat) : Int) := by
        simp [IntKind.wrap, IntKind.bits, IntKind.signed]; omega
      have h10 : (10 : Int) ≠ 0 := by decide
      have hel : ∀ bx, elsOf ⟨bx, σ ++ (ext ++ [⟨[[.int .u8 (48 + ((k % 10 : Nat) : Int))]], 1, 0, .own⟩])⟩ 1 (.v (.sl (σ ++ ext).length 0 0 1)) = some [[.int .u8 (48 + ((k % 10 : Nat) : Int))]] := by
        intro bx
        rw [← List.append_assoc]
        have := (SlAt.new (σ ++ ext) [[.int .u8 (48 + ((k % 10 : Nat) : Int))]] 1).els bx
        exact this
      have hby : byteOfCell [.int .u8 (48 + ((k % 10 : Nat) : Int))] = some (mdig k) := by
        simp only [byteOfCell, mdig]
        congr 1
      have hcat : ([mdig k] : List UInt8).length + acc.length ≤ 140737488355328 := by simp only [List.length_cons, List.length_nil]; omega
      obtain ⟨ext', ih'⟩ := ih (k / 10) (mdig k :: acc) (ext ++ [⟨[[.int .u8 (48 + ((k % 10 : Nat) : Int))]], 1, 0, .own⟩]) (by omega) (by simp only [List.length_cons]; omega)
      refine ⟨ext', ?_⟩
      rw [loopK_step l_laws_markText_0.eq_1]
      simp (config := {contextual := true, implicitDefEqProofs := false, maxSteps := 1000000}) only [
    ↓PR0, ↓PR1, ↓PR2, PO0, PO1, PO2, PO3, idxV_str, result, resOf, allSome, number, upd, List.map, Option.bind_some, Nat.reduceAdd, Nat.reduceSub, Nat.reduceLeDiff, Nat.reduceLT, Nat.reduceEqDiff, Nat.zero_add, Nat.add_zero, Nat.le_refl, 
    reduceIte, ne_eq, not_false_eq_true, and_self, true_and, and_true, reduceCtorEq, cond_true, cond_false, hpos, decide_true, binV_rem _ _ _ h10, binV_quo _ _ _ h10, hrem, hquo, hw, hu, List.replicate_succ, List.replicate_zero, 
    List.set_cons_zero, List.append_assoc, hel, hby, binV_cat _ _ hcat, List.singleton_append, ih', mgo, h0]

theorem markText_eq (k : Nat) (hk : k ≤ 100000000) (σ : Store) : EE X f_laws_markText [int k] σ = some (.str (mtext k), σ) := by
  by_cases h0 : k = 0
  · subst h0
    rw [EE, Ex_run C_laws_markText rfl]
    have := @finK_pop [.t 2] σ
    simp (config := {contextual := true, implicitDefEqProofs := false, maxSteps := 1000000}) only [
    ↓PR0, ↓PR1, ↓PR2, PO0, PO1, PO2, PO3, idxV_str, result, resOf, allSome, number, upd, List.map, Option.bind_some, Nat.reduceAdd, Nat.reduceSub, Nat.reduceLeDiff, Nat.reduceLT, Nat.reduceEqDiff, Nat.zero_add, Nat.add_zero, Nat.le_refl, 
    reduceIte, ne_eq, not_false_eq_true, and_self, true_and, and_true, reduceCtorEq, cond_true, cond_false, c_laws_markText, Int.cast_ofNat_Int, Int.le_refl, decide_true]
    have h := finK_pop (res := [.t 2]) (st := σ) (g := [(2, .v (.str [109, 48]))]) (bx := []) (ext := []) (a := .str [109, 48]) (by simp [result, allSome, resOf, evv, ev, lk, RV.av]) rfl
    rw [List.append_nil] at h
    rw [h]
    rfl
  · have hnp : ¬ ((k : Int) ≤ 0) := by omega
    obtain ⟨ext', h⟩ := markText_loop (X := X) (R := AV × Store) σ (blkK 0 (seqK (EE X) (.seq (.reg [op 18 (.mv (.t 3)), op 19 (.bin .add (.c (.str [109])) (.t 18)), op 2 (.mv (.t 19))] [2] none) .ret) (finK [.t 2] true σ))) k k [] [] (by omega) (by simp; omega)
    have hlen : ([109] : List UInt8).length + (mgo k k []).length ≤ 140737488355328 := by
      have key : ∀ (n k : Nat) (acc : List UInt8), (mgo n k acc).length ≤ acc.length + n := by
        intro n
        induction n with
        | zero => intro k acc; simp [mgo]
        | succ n ih =>
          intro k acc
          simp only [mgo]
          split
          · omega
          · have := ih (k / 10) (mdig k :: acc)
            simp only [List.length_cons] at this
            omega
      have := key k k []
      simp at this ⊢
      omega
    rw [EE, Ex_run C_laws_markText rfl]
    rw [List.append_nil] at h
    simp (config := {contextual := true, implicitDefEqProofs := false, maxSteps := 1000000}) only [
    ↓PR0, ↓PR1, ↓PR2, PO0, PO1, PO2, PO3, idxV_str, result, resOf, allSome, number, upd, List.map, Option.bind_some, Nat.reduceAdd, Nat.reduceSub, Nat.reduceLeDiff, Nat.reduceLT, Nat.reduceEqDiff, Nat.zero_add, Nat.add_zero, Nat.le_refl, 
    reduceIte, ne_eq, not_false_eq_true, and_self, true_and, and_true, reduceCtorEq, cond_true, cond_false, c_laws_markText, hnp, decide_false]
    refine h.trans ?_
    simp (config := {contextual := true, implicitDefEqProofs := false, maxSteps := 1000000}) only [
    ↓PR0, ↓PR1, ↓PR2, PO0, PO1, PO2, PO3, idxV_str, result, resOf, allSome, number, upd, List.map, Option.bind_some, Nat.reduceAdd, Nat.reduceSub, Nat.reduceLeDiff, Nat.reduceLT, Nat.reduceEqDiff, Nat.zero_add, Nat.add_zero, Nat.le_refl, 
    reduceIte, ne_eq, not_false_eq_true, and_self, true_and, and_true, reduceCtorEq, cond_true, cond_false, binV_cat _ _ hlen]
    refine (finK_pop (a := .str ([109] ++ mgo k k [])) (by simp [result, allSome, resOf, evv, ev, lk, RV.av]) rfl).trans ?_
    simp [mtext, h0]
end Go.X
