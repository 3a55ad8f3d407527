/- The executor over a seat's functions. -/
import Derived.Test.YtfifhpmcbfeadaaGreatDoorXC1
namespace Go.X
open Go
noncomputable abbrev EE (X : Call) : Call := Ex CC X
end Go.X
