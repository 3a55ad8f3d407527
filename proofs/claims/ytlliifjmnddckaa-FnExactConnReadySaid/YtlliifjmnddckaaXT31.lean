/- The types of the connections' arguments, as they are read. -/
import Derived.Test.YtlliifjmnddckaaXS1
import Derived.Test.YtlliifjmnddckaaRows
import Derived.KernelRfl
set_option linter.unusedVariables false
set_option linter.unusedSimpArgs false
namespace Go.X
open Go Go.Proofs
variable {H : Type} (enc : TypeId × Value → H) (W : World)

noncomputable abbrev PP : Program := Try.prog

theorem rd_Slot : Rd enc PP W 89 3 RSlot := by
  have h := Rd.struct enc PP W Try.underlying89 (by kernel_rfl) (RdFs.cons enc PP W rfl (by kernel_rfl) RInt.mono (Rd.int enc PP W (by kernel_rfl)) (RdFs.cons enc PP W rfl (by kernel_rfl) RBool.mono (Rd.bool enc PP W (by kernel_rfl)) (RdFs.cons enc PP W rfl (by kernel_rfl) RStr.mono (Rd.str enc PP W (by kernel_rfl)) (RdFs.nil enc PP W _))))
  refine Rd.map enc PP W (fun m => ⟨m.1, m.2.1, m.2.2.1⟩) ?_ h
  rintro σ ⟨a, b, c, _⟩ cs ⟨c1, r1, rfl, _, ⟨rfl, h1⟩, c2, r2, rfl, _, rfl, c3, r3, rfl, _, ⟨rfl, h3⟩, rfl⟩
  exact ⟨rfl, h1, h3⟩
theorem rd_Conn : Rd enc PP W 31 5 RConn := by
  have h := Rd.struct enc PP W Try.underlying31 (by kernel_rfl) (RdFs.cons enc PP W rfl (by kernel_rfl) RBool.mono (Rd.bool enc PP W (by kernel_rfl)) (RdFs.cons enc PP W rfl (by kernel_rfl) RBool.mono (Rd.bool enc PP W (by kernel_rfl)) (RdFs.cons enc PP W rfl (by kernel_rfl) RStr.mono (Rd.str enc PP W (by kernel_rfl)) (RdFs.cons enc PP W rfl (by kernel_rfl) (RL.mono RSlot.mono) (Rd.slice enc PP W Try.underlying29 (by kernel_rfl) (by omega) RSlot.mono (rd_Slot enc W)) (RdFs.cons enc PP W rfl (by kernel_rfl) RInt.mono (Rd.int enc PP W (by kernel_rfl)) (RdFs.nil enc PP W _))))))
  refine Rd.map enc PP W (fun m => ⟨m.1, m.2.1, m.2.2.1, m.2.2.2.1, m.2.2.2.2.1⟩) ?_ h
  rintro σ ⟨a, b, c, d, e, _⟩ cs ⟨c1, r1, rfl, _, rfl, c2, r2, rfl, _, rfl, c3, r3, rfl, _, ⟨rfl, h3⟩, c4, r4, rfl, _, ⟨av, rfl, h4, h4'⟩, c5, r5, rfl, _, ⟨rfl, h5⟩, rfl⟩
  exact ⟨av, rfl, h4, h5, h3, h4'⟩
end Go.X
