/- The row of the law FnExactComes. -/
import Derived.Test.YtekcdlibmngkiaaXL21
import Derived.Test.YtekcdlibmngkiaaXX1
import Derived.Test.YtekcdlibmngkiaaXTN
import Derived.Test.YtekcdlibmngkiaaXT0
import Derived.Test.YtekcdlibmngkiaaXC2
import Derived.Test.YtekcdlibmngkiaaRows
import Derived.WalkKit
import Derived.ProofKit
import Derived.OpenShut
import Derived.ShutString
import Derived.ChangeOld
import Derived.Below
import Derived.SizedLaws
namespace Go.Proofs.Ytekcdlibmngkiaa.fnExactComes
open Go.ChangeShapes Go.WideShapes Go.ChangeAt Go.RowKit Go.X
open Go.ChangeMaps (open_string shut_string)
set_option linter.unusedVariables false
theorem own : ownKnob Try.prog.godebug = none := by kernel_rfl
theorem laidOut : laidOutB Try.prog = true := by kernel_rfl
set_option maxRecDepth 100000 in
theorem lifted (os : Os) (started : os.Started) (H : Type) (enc : TypeId × Value → H) :
    ReturnsInHanded {} Try.checked os 3 .any (Rows.fnExactComesSpec.pre6 enc Try.prog Try.f3 Rows.fnExactComesRow.domain false) (Rows.fnExactComesSpec.post enc Try.prog Try.f3 false true false false) := by
  refine returnsInHanded_of_change_sized (C := Try.checked) own started (by kernel_rfl) Try.func3
    (ChangeSpec.witness6 (enc := enc) (C := Try.checked) false ⟨#[], #[.agg #[.slice none 0 0, .int .i64 0], .string ByteArray.empty, .string ByteArray.empty], []⟩ 8 (by kernel_rfl) (by kernel_rfl) (by kernel_rfl) (by kernel_rfl)) ?_
  intro W base args ds gs before hval0 hW hcnd hsz0 _
  have hval : ∀ (j : Nat) t v, Try.f3.params[j]? = some t → args[j]? = some v → Value.okWide Try.prog W .any base t v := hval0
  have hW' := hW
  obtain ⟨p, q, hA0, hV, rfl, hfz, hnd⟩ := hW
  have hA : DataW.TrodAll enc Try.prog W 0 (fun _ => true) true Try.f3.params.toList args.toList ds p := hA0
  rw [Try.params3] at hA hval
  obtain ⟨v0, vs0, d0, ds0, p0, q0, hargs, rfl, rfl, h0, r0⟩ := trodAll_cons hA
  obtain ⟨v1, vs1, d1, ds1, p1, q1, rfl, rfl, rfl, h1, r1⟩ := trodAll_cons r0
  obtain ⟨v2, vs2, d2, ds2, p2, q2, rfl, rfl, rfl, h2, r2⟩ := trodAll_cons r1
  obtain ⟨rfl, rfl, rfl⟩ := trodAll_nil r2
  obtain rfl : args = #[v0, v1, v2] := by cases args; simp_all
  obtain ⟨rfl, rfl⟩ := trodVars_none hV
  have lt0 : ∀ x ∈ p0, x.block < W.heap.size := by obtain ⟨m, hm⟩ := h0; exact DataW.trod_lt m _ _ _ hm
  have lt1 : ∀ x ∈ p1, x.block < W.heap.size := by obtain ⟨m, hm⟩ := h1; exact DataW.trod_lt m _ _ _ hm
  have lt2 : ∀ x ∈ p2, x.block < W.heap.size := by obtain ⟨m, hm⟩ := h2; exact DataW.trod_lt m _ _ _ hm
  clear hA0 hval0 hsz0
  obtain ⟨c0, m0, a0, e0, g0, hv0, hm0⟩ := (rd_Tree enc W).argS enc PP W Try.underlying24 (hval 0 _ v0 rfl rfl) h0 (Good.nil W)
  obtain ⟨c1, m1, a1, e1, g1, hv1, hm1⟩ := (Rd.str enc PP W Try.underlying9).arg1 enc PP W (cells_str PP W Try.underlying9 (hval 1 _ v1 rfl rfl)) h1 g0
  obtain ⟨c2, m2, a2, e2, g2, hv2, hm2⟩ := (Rd.str enc PP W Try.underlying9).arg1 enc PP W (cells_str PP W Try.underlying9 (hval 2 _ v2 rfl rfl)) h2 g1
  obtain ⟨σ', hrun⟩ := lawR_Comes (X := repX) repX_rep (e2.mono RTree.mono (e1.mono RTree.mono hm0)) (e2.mono RStr.mono hm1) hm2
  have hvs : VRs c2 [.agg a0, a1, a2] [v0, v1, v2] := by rw [VRs, VRs, VRs]; exact ⟨(VR_mono e2.le _ _ (VR_mono e1.le _ _ hv0)), (VR_mono e2.le _ _ hv1), hv2, by simp [VRs]⟩
  refine (law_callsX mixed CC_prog (repX_sound _ _) g2 hvs hrun).mono fun e W' ⟨he, bel⟩ => ?_
  subst he
  exact ⟨_, rfl, _, _, _, [], _, [], hW', trodAll_mk1 (shut_bool Try.underlying4 _), (trodAll_cons_mk (Below.trod laidOut (by kernel_rfl) (of_decide_eq_true (by kernel_rfl)) h0 bel lt0) (trodAll_cons_mk (Below.trod laidOut (by kernel_rfl) (of_decide_eq_true (by kernel_rfl)) h1 bel lt1) (trodAll_cons_mk (Below.trod laidOut (by kernel_rfl) (of_decide_eq_true (by kernel_rfl)) h2 bel lt2) trodAll_mk0))), rfl, bel.frame _, fun h => by cases h⟩
theorem over : Rows.fnExactComesRow.holds Try.pinned (OpenSpec.ofChange Rows.fnExactComesSpec) :=
  OpenClaim.holds_of_wide 3 Try.f3 rfl rfl rfl rfl rfl rfl rfl ⟨rfl, rfl, rfl, rfl, rfl⟩ rfl rfl rfl rfl rfl (by kernel_rfl) Try.func3 (by kernel_rfl)
    (of_decide_eq_true (by kernel_rfl)) (by unfold Func.isWrapper; first | (rw [if_pos (by decide +kernel)]; kernel_rfl) | (rw [if_neg (by decide +kernel)]; exact ⟨rfl, rfl⟩))
    (fun os started H enc _ => lifted os started H enc)
theorem proved : Rows.FnExactComesSaid := over
#print axioms proved
end Go.Proofs.Ytekcdlibmngkiaa.fnExactComes
namespace Go.Proofs.Ytekcdlibmngkiaa
/-- The row, under a short name, for the claim. -/
theorem fnExactComes_holds : Rows.FnExactComesSaid := fnExactComes.proved
end Go.Proofs.Ytekcdlibmngkiaa
