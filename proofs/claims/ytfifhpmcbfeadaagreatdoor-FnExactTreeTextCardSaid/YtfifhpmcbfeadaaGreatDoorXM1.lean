/- The texts that the laws' marks write. -/
import Derived.Test.YtfifhpmcbfeadaaGreatDoorXE
set_option linter.unusedVariables false
set_option linter.unusedSimpArgs false
set_option maxRecDepth 20000
namespace Go.X
open Go
variable {X : Call}
theorem finK_pop {res : List XRes} {st : Store} {g : Regs} {bx : Boxes} {ext : Store} {a : AV} (h : result (g, ⟨bx, st ++ ext⟩) res = some a) (hb : below st.length a = true) : finK res true st .ret (g, ⟨bx, st ++ ext⟩) = some (a, st) := by
  simp only [finK, h, Option.bind_some, if_true, List.take_left, hb, and_self]

def mdig (k : Nat) : UInt8 := UInt8.ofNat (48 + k % 10)
def mgo : Nat → Nat → List UInt8 → List UInt8
  | 0, _, acc => acc
  | n + 1, k, acc => if k = 0 then acc else mgo n (k / 10) (mdig k :: acc)
/-- The text of a mark. -/
def mtext (k : Nat) : List UInt8 := if k = 0 then [109, 48] else 109 :: mgo k k []

end Go.X
