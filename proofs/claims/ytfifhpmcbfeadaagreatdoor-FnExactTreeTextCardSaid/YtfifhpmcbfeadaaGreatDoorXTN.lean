/- The types of the trees' arguments, as they are read. -/
import Derived.Test.YtfifhpmcbfeadaaGreatDoorXN2
import Derived.Test.YtfifhpmcbfeadaaGreatDoorXT0
import Derived.KernelRfl
set_option linter.unusedVariables false
set_option linter.unusedSimpArgs false
namespace Go.X
open Go Go.Proofs
variable {H : Type} (enc : TypeId × Value → H) (W : World)

theorem RStr.rt {σ : Store} {m : List UInt8} {cs : List AV} (h : RStr σ m cs) : RT σ m cs := h
theorem rd_Node : Rd enc PP W 46 5 RNode := by
  have h := Rd.struct enc PP W Tryz.underlying46 (by kernel_rfl) (RdFs.cons enc PP W rfl (by kernel_rfl) RInt.mono (Rd.int enc PP W (by kernel_rfl)) (RdFs.cons enc PP W rfl (by kernel_rfl) RInt.mono (Rd.int enc PP W (by kernel_rfl)) (RdFs.cons enc PP W rfl (by kernel_rfl) RStr.mono (Rd.str enc PP W (by kernel_rfl)) (RdFs.cons enc PP W rfl (by kernel_rfl) (RL.mono RStr.mono) (Rd.slice enc PP W Tryz.underlying36 (by kernel_rfl) (by omega) RStr.mono (Rd.str enc PP W Tryz.underlying9)) (RdFs.cons enc PP W rfl (by kernel_rfl) (RL.mono RInt.mono) (Rd.slice enc PP W Tryz.underlying37 (by kernel_rfl) (by omega) RInt.mono (Rd.int enc PP W Tryz.underlying3)) (RdFs.nil enc PP W _))))))
  refine Rd.map enc PP W (fun m => ⟨m.1, m.2.1, m.2.2.1, m.2.2.2.1, m.2.2.2.2.1⟩) ?_ h
  rintro σ ⟨a, b, c, d, e, _⟩ cs ⟨c1, r1, rfl, _, ⟨rfl, h1⟩, c2, r2, rfl, _, ⟨rfl, h2⟩, c3, r3, rfl, _, ⟨rfl, h3⟩, c4, r4, rfl, _, ⟨an, rfl, h4, h4'⟩, c5, r5, rfl, _, ⟨ak, rfl, h5, h5'⟩, rfl⟩
  exact ⟨an, ak, rfl, h4, h5, h1, h2, h3, h4', h5'⟩
theorem rd_Tree : Rd enc PP W 24 2 RTree := by
  have h := Rd.struct enc PP W Tryz.underlying24 (by kernel_rfl) (RdFs.cons enc PP W rfl (by kernel_rfl) (RL.mono RNode.mono) (Rd.slice enc PP W Tryz.underlying22 (by kernel_rfl) (by omega) RNode.mono (rd_Node enc W)) (RdFs.cons enc PP W rfl (by kernel_rfl) RInt.mono (Rd.int enc PP W (by kernel_rfl)) (RdFs.nil enc PP W _)))
  refine Rd.map enc PP W (fun m => ⟨m.1, m.2.1⟩) ?_ h
  rintro σ ⟨a, b, _⟩ cs ⟨c1, r1, rfl, _, ⟨av, rfl, h1, h1'⟩, c2, r2, rfl, _, ⟨rfl, h2⟩, rfl⟩
  exact ⟨av, rfl, h1, h2, h1'⟩
end Go.X
