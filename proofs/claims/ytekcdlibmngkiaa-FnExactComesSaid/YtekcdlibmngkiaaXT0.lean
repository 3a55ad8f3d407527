/- The program, under a short name. -/
import Derived.Test.YtekcdlibmngkiaaRows
namespace Go.X
open Go Go.Proofs
noncomputable abbrev PP : Program := Try.prog
end Go.X
