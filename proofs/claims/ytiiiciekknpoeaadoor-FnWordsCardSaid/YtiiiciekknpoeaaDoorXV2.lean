/- Values: binary and unary operations of both, and their order. -/
import Derived.Test.YtiiiciekknpoeaaDoorXV1
import Derived.Test.YtiiiciekknpoeaaDoorXK1
import Derived.Test.YtiiiciekknpoeaaDoorY6
set_option linter.unusedVariables false
set_option linter.unusedSimpArgs false
set_option maxRecDepth 20000
namespace Go.X
open Go
variable {X : Call}

def arithM (op : List UInt8) (a b : Int) : ValueM × Int :=
  bif op == [60] then (vBool (decide (a < b)), 0) else bif op == [43] then fitM (a + b) else bif op == [45] then fitM (a - b) else bif op == [42] then fitM (a * b)
  else bif b == 0 then (vNil, 4) else bif op == [47] && a.tmod b != 0 then (vNil, 4) else bif op == [37] then fitM (a.tmod b) else fitM (a.tdiv b)
def binM (op : List UInt8) (a b : ValueM) : ValueM × Int :=
  bif op == [61, 61] then (vBool (a == b), 0) else bif (a.kind == 3 && b.kind == 3) && op == [60] then (vBool (Op.bytesLess a.t b.t), 0)
  else bif (a.kind == 3 && b.kind == 3) && op == [43] then (bif decide ((60 : Int) < ((a.t.length + b.t.length : Nat) : Int)) then (vNil, 10) else (vText (a.t ++ b.t), 0))
  else bif a.kind != 1 || b.kind != 1 then (vNil, 8) else arithM op a.n b.n
def isBin (op : List UInt8) : Bool := op == [61, 61] || op == [60] || op == [43] || op == [45] || op == [42] || op == [47] || op == [37]

def Small (n : Int) : Prop := -2147483648 ≤ n ∧ n ≤ 2147483648
theorem tmod_small {a b : Int} (h : Small a) : Small (a.tmod b) := by
  have h1 : (a.tmod b).natAbs = a.natAbs % b.natAbs := Int.natAbs_tmod a b
  have h2 := Nat.mod_le a.natAbs b.natAbs
  unfold Small at h ⊢
  omega
theorem tdiv_small {a b : Int} (h : Small a) : Small (a.tdiv b) := by
  have h1 : (a.tdiv b).natAbs = a.natAbs / b.natAbs := Int.natAbs_tdiv a b
  have h2 := Nat.div_le_self a.natAbs b.natAbs
  unfold Small at h ⊢
  omega
theorem mul_small {a b : Int} (h : Small a) (k : Small b) : -4611686018427387904 ≤ a * b ∧ a * b ≤ 4611686018427387904 := by
  unfold Small at h k
  have h1 : (a * b).natAbs = a.natAbs * b.natAbs := Int.natAbs_mul a b
  have h2 : a.natAbs * b.natAbs ≤ 2147483648 * 2147483648 := Nat.mul_le_mul (by omega) (by omega)
  omega
theorem OkV.small {v : ValueM} (h : OkV v) : Small v.n := by
  cases h with
  | nil => unfold Small; decide
  | int n h1 h2 => unfold Small; simp only; omega
  | bool b => cases b <;> (unfold Small; decide)
  | text t h => show Small 0; unfold Small; decide
theorem OkV.len {v : ValueM} (h : OkV v) : v.t.length ≤ 60 := by
  cases h with
  | text t h => exact h
  | _ => simp

theorem lits_off (σ : Store) {p n : Nat} (hp : p < σ.length) : Off (.sl σ.length 0 0 n) p := by
  intro r v i n e
  cases e
  omega

def ops7 : List (List UInt8) := [[61, 61], [60], [43], [45], [42], [47], [37]]
theorem fit_of {n : Int} (h : -2147483648 ≤ n ∧ n ≤ 2147483647) : fitM n = (vInt n, 0) := by simp [fitM, inInt, h]

end Go.X
