/- The program, under a short name. -/
import Derived.Test.YtfifhpmcbfeadaaGreatDoorRows
namespace Go.X
open Go Go.Proofs
noncomputable abbrev PP : Program := Tryz.prog
end Go.X
