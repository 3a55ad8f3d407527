/- Tokens: how one is written; the law of TokenText. -/
import Derived.Test.YtfifhpmcbfeadaaGreatDoorXD6
set_option linter.unusedVariables false
set_option linter.unusedSimpArgs false
set_option maxRecDepth 20000
namespace Go.X
open Go Go.Lib
variable {X : Call}

/-- What is a token. -/
def tokB (k : Int) (t : List UInt8) : Bool :=
  if k = 1 then identM t else if k = 2 then wordOK t else if k = 3 then intM t else if k = 4 then plainM t else if k = 5 then signM t else false
/-- How a token is written. -/
def tokT (k : Int) (t : List UInt8) : List UInt8 := if k = 4 then quoteM t else t
theorem numM_int {t : List UInt8} {v : Int} (h : numM t = some v) : intM t = (decide (0 ≤ v) && decide (v ≤ 2147483647)) := by simp only [intM, h]
end Go.X
