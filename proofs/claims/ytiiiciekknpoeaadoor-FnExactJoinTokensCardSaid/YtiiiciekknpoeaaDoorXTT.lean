/- The type of tokens, as it is read. -/
import Derived.Test.YtiiiciekknpoeaaDoorXD4
import Derived.Test.YtiiiciekknpoeaaDoorXT0
import Derived.KernelRfl
set_option linter.unusedVariables false
set_option linter.unusedSimpArgs false
namespace Go.X
open Go Go.Proofs
variable {H : Type} (enc : TypeId × Value → H) (W : World)

theorem rd_Token : Rd enc PP W 23 3 RTok := by
  have h := Rd.struct enc PP W Tryd.underlying23 (by kernel_rfl) (RdFs.cons enc PP W rfl (by kernel_rfl) RInt.mono (Rd.int enc PP W (by kernel_rfl)) (RdFs.cons enc PP W rfl (by kernel_rfl) RInt.mono (Rd.int enc PP W (by kernel_rfl)) (RdFs.cons enc PP W rfl (by kernel_rfl) RStr.mono (Rd.str enc PP W (by kernel_rfl)) (RdFs.nil enc PP W _))))
  refine Rd.map enc PP W (fun m => ⟨m.1, m.2.1, m.2.2.1⟩) ?_ h
  rintro σ ⟨a, b, c, _⟩ cs ⟨c1, r1, rfl, _, ⟨rfl, h1⟩, c2, r2, rfl, _, ⟨rfl, h2⟩, c3, r3, rfl, _, ⟨rfl, h3⟩, rfl⟩
  exact ⟨rfl, h1, h2, h3⟩
end Go.X
