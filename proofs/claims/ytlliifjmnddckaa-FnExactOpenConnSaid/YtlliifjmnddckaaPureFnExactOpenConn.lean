/- The law FnExactOpenConn holds of numbers and lists: with two rounds the printed function answers true. No condition. -/
import Derived.Test.YtlliifjmnddckaaPFnExactOpenConnx2
namespace Go.Proofs.Ytlliifjmnddckaa.Pure
open Go.RowKit Go.Proofs.Ytlliifjmnddckaa.PFnExactOpenConn Go.Proofs.YtlliifjmnddckaaW.PrintWords Go.Proofs.YtlliifjmnddckaaW.PrintLast
theorem FnExactOpenConn : laws_FnExactOpenConn.Pure := by
  refine ⟨2, ?_⟩
  simp [laws_FnExactOpenConn.f, spec_OpenConn.f, impl_OpenConn.f, laws_eqConn.f, laws_eqSlotS.f, laws_eqSlotS.l0, laws_markConn.f, laws_markSlotS.f, laws_markSlotS.l0, laws_heldConn.f, laws_heldSlotS.f, laws_heldSlotS.l0]
end Go.Proofs.Ytlliifjmnddckaa.Pure
