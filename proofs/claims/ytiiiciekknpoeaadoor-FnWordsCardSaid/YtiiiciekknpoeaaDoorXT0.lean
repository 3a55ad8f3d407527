/- The program, under a short name. -/
import Derived.Test.YtiiiciekknpoeaaDoorRows
namespace Go.X
open Go Go.Proofs
noncomputable abbrev PP : Program := Tryd.prog
end Go.X
