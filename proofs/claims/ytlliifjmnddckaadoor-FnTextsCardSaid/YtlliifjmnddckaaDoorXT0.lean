/- The program, under a short name. -/
import Derived.Test.YtlliifjmnddckaaDoorRows
namespace Go.X
open Go Go.Proofs
noncomputable abbrev PP : Program := Tryd.prog
end Go.X
