/- The row of the law FnExactCallsOf. -/
import Derived.Test.YtekcdlibmngkiaaXL19
import Derived.Test.YtekcdlibmngkiaaXX1
import Derived.Test.YtekcdlibmngkiaaXTN
import Derived.Test.YtekcdlibmngkiaaXT0
import Derived.Test.YtekcdlibmngkiaaXC2
import Derived.Test.YtekcdlibmngkiaaRows
import Derived.WalkKit
import Derived.ProofKit
import Derived.OpenShut
import Derived.ShutString
import Derived.ChangeOld
import Derived.Below
import Derived.SizedLaws
namespace Go.Proofs.Ytekcdlibmngkiaa.fnExactCallsOf
open Go.ChangeShapes Go.WideShapes Go.ChangeAt Go.RowKit Go.X
open Go.ChangeMaps (open_string shut_string)
set_option linter.unusedVariables false
theorem own : ownKnob Try.prog.godebug = none := by kernel_rfl
theorem laidOut : laidOutB Try.prog = true := by kernel_rfl
set_option maxRecDepth 100000 in
theorem lifted (os : Os) (started : os.Started) (H : Type) (enc : TypeId × Value → H) :
    ReturnsInHanded {} Try.checked os 6 .any (Rows.fnExactCallsOfSpec.pre6 enc Try.prog Try.f6 Rows.fnExactCallsOfRow.domain false) (Rows.fnExactCallsOfSpec.post enc Try.prog Try.f6 false true false false) := by
  refine returnsInHanded_of_change_sized (C := Try.checked) own started (by kernel_rfl) Try.func6
    (ChangeSpec.witness6 (enc := enc) (C := Try.checked) false ⟨#[], #[.agg #[.slice none 0 0, .int .i64 0], .int .i64 0], []⟩ 8 (by kernel_rfl) (by kernel_rfl) (by kernel_rfl) (by kernel_rfl)) ?_
  intro W base args ds gs before hval0 hW hcnd hsz0 _
  have hval : ∀ (j : Nat) t v, Try.f6.params[j]? = some t → args[j]? = some v → Value.okWide Try.prog W .any base t v := hval0
  have hW' := hW
  obtain ⟨p, q, hA0, hV, rfl, hfz, hnd⟩ := hW
  have hA : DataW.TrodAll enc Try.prog W 0 (fun _ => true) true Try.f6.params.toList args.toList ds p := hA0
  rw [Try.params6] at hA hval
  obtain ⟨v0, vs0, d0, ds0, p0, q0, hargs, rfl, rfl, h0, r0⟩ := trodAll_cons hA
  obtain ⟨v1, vs1, d1, ds1, p1, q1, rfl, rfl, rfl, h1, r1⟩ := trodAll_cons r0
  obtain ⟨rfl, rfl, rfl⟩ := trodAll_nil r1
  obtain rfl : args = #[v0, v1] := by cases args; simp_all
  obtain ⟨rfl, rfl⟩ := trodVars_none hV
  have lt0 : ∀ x ∈ p0, x.block < W.heap.size := by obtain ⟨m, hm⟩ := h0; exact DataW.trod_lt m _ _ _ hm
  have lt1 : ∀ x ∈ p1, x.block < W.heap.size := by obtain ⟨m, hm⟩ := h1; exact DataW.trod_lt m _ _ _ hm
  clear hA0 hval0 hsz0
  obtain ⟨c0, m0, a0, e0, g0, hv0, hm0⟩ := (rd_Tree enc W).argS enc PP W Try.underlying24 (hval 0 _ v0 rfl rfl) h0 (Good.nil W)
  obtain ⟨c1, m1, a1, e1, g1, hv1, hm1⟩ := (Rd.int enc PP W Try.underlying3).arg1 enc PP W (cells_int PP W Try.underlying3 (hval 1 _ v1 rfl rfl)) h1 g0
  obtain ⟨σ', hrun⟩ := lawR_CallsOf (X := repX) repX_rep (e1.mono RTree.mono hm0) hm1
  have hvs : VRs c1 [.agg a0, a1] [v0, v1] := by rw [VRs, VRs]; exact ⟨(VR_mono e1.le _ _ hv0), hv1, by simp [VRs]⟩
  refine (law_callsX mixed CC_prog (repX_sound _ _) g1 hvs hrun).mono fun e W' ⟨he, bel⟩ => ?_
  subst he
  exact ⟨_, rfl, _, _, _, [], _, [], hW', trodAll_mk1 (shut_bool Try.underlying4 _), (trodAll_cons_mk (Below.trod laidOut (by kernel_rfl) (of_decide_eq_true (by kernel_rfl)) h0 bel lt0) (trodAll_cons_mk (Below.trod laidOut (by kernel_rfl) (of_decide_eq_true (by kernel_rfl)) h1 bel lt1) trodAll_mk0)), rfl, bel.frame _, fun h => by cases h⟩
theorem over : Rows.fnExactCallsOfRow.holds Try.pinned (OpenSpec.ofChange Rows.fnExactCallsOfSpec) :=
  OpenClaim.holds_of_wide 6 Try.f6 rfl rfl rfl rfl rfl rfl rfl ⟨rfl, rfl, rfl, rfl, rfl⟩ rfl rfl rfl rfl rfl (by kernel_rfl) Try.func6 (by kernel_rfl)
    (of_decide_eq_true (by kernel_rfl)) (by unfold Func.isWrapper; first | (rw [if_pos (by decide +kernel)]; kernel_rfl) | (rw [if_neg (by decide +kernel)]; exact ⟨rfl, rfl⟩))
    (fun os started H enc _ => lifted os started H enc)
theorem proved : Rows.FnExactCallsOfSaid := over
#print axioms proved
end Go.Proofs.Ytekcdlibmngkiaa.fnExactCallsOf
namespace Go.Proofs.Ytekcdlibmngkiaa
/-- The row, under a short name, for the claim. -/
theorem fnExactCallsOf_holds : Rows.FnExactCallsOfSaid := fnExactCallsOf.proved
end Go.Proofs.Ytekcdlibmngkiaa
