/- What the library's functions do that TreeText calls: strings.Repeat, strings.Join, strconv.Itoa, by the shelf's contracts. -/
import Derived.Test.YtfifhpmcbfeadaaGreatDoorXX6
import Derived.Test.YtfifhpmcbfeadaaGreatDoorRows
import Derived.Test.YtfifhpmcbfeadaaGreatDoorXX1
import Derived.Test.YtfifhpmcbfeadaaGreatDoorXJ3
import Derived.Stop.LaidErr
import Derived.Lib.LaidTab
import Derived.KernelRfl
set_option linter.unusedVariables false
set_option linter.unusedSimpArgs false
namespace Go.X
open Go Go.Proofs

def itoaX : Call := fun f args σ =>
  if f = f_strconv_Itoa then
    match args with
    | [.int .i64 n] => if -9223372036854775808 ≤ n ∧ n ≤ 9223372036854775807 then some (.str (Lib.itoa n), σ) else none
    | _ => none
  else none
theorem itoaX_sound (W0 : World) (ht : Lib.TabIs Tryz.prog W0 "internal/strconv.uint64pow10" .u64 Lib.pow10Tab) : SoundCall Tryz.prog W0.heap.size W0 itoaX := by
  intro f args st r st' h
  unfold itoaX at h
  split at h
  · rename_i hf
    subst hf
    split at h
    · rename_i n
      split at h
      · rename_i hc
        obtain ⟨n0, n1⟩ := hc
        simp only [Option.some.injEq, Prod.mk.injEq] at h
        obtain ⟨rfl, rfl⟩ := h
        refine ⟨⟨Tryz.f62, Tryz.func62, by kernel_rfl, by kernel_rfl⟩, fun c xs hs ho hσ hv => ?_⟩
        match xs, hv with
        | [x], hv =>
          simp only [VRs] at hv
          obtain ⟨hx, _⟩ := hv
          rw [VR] at hx
          subst hx
          refine (Tryz.strconv_Itoa n n0 n1 c.w (tab_old ht ho)).mono fun e w' ⟨he, k, os, hw⟩ => ?_
          have hbel : RowKit.Below c.w.heap.size c.w w' := by rw [hw]; exact Lib.below_grow _ _ (Nat.le_refl _) k os
          have hw := bel_world hs hbel
          refine ⟨⟨c.β, c.σ, w'⟩, _, he, rfl, hσ, hw.1, hw.2, ?_⟩
          rw [VR]
          exact ⟨_, rfl, rfl⟩
      · cases h
    · cases h
  · cases h
def libT : Call := fun f args σ => match repX f args σ with
  | some r => some r
  | none => match joinX f args σ with
    | some r => some r
    | none => itoaX f args σ
def laidT : List (String × DataW Unit) := [("math/bits.deBruijn32tab", YtfifhpmcbfeadaaGreatDoor.Rows.laid_math_bits_deBruijn32tab), ("math/bits.deBruijn64tab", YtfifhpmcbfeadaaGreatDoor.Rows.laid_math_bits_deBruijn64tab), ("internal/strconv.uint64pow10", YtfifhpmcbfeadaaGreatDoor.Rows.laid_internal_strconv_uint64pow10)]
theorem libT_laid (W : World) (h : laidMet Tryz.prog laidT W) : SoundCall Tryz.prog W.heap.size W libT := by
  intro f args st r st' hh
  unfold libT at hh
  split at hh
  · rename_i r0 h0
    cases hh
    exact repX_sound _ W f args st r st' h0
  · split at hh
    · rename_i r0 h0
      cases hh
      exact joinX_sound _ W f args st r st' h0
    · have h1 : laidMet Tryz.prog (("internal/strconv.uint64pow10", Lib.tabData .u64 Lib.pow10Tab) :: []) W := h.tail.tail
      have t1 := Lib.tabIs_of_head (g := 1) (by kernel_rfl) (by kernel_rfl) Tryz.underlying127 Tryz.underlying117 (by kernel_rfl) (by kernel_rfl) h1
      exact itoaX_sound W t1 f args st r st' hh
theorem libT_all : RepX libT ∧ ItoaX libT ∧ JoinX libT := by
  have hR : CC f_strings_Repeat = none := rfl
  have hI : CC f_strconv_Itoa = none := rfl
  have hJ : CC f_strings_Join = none := rfl
  refine ⟨?_, ?_, ?_⟩
  · intro b n σ hn
    have h := repX_rep b n σ hn
    rw [EE, Ex_ext hR] at h ⊢
    unfold libT
    rw [h]
  · intro n σ hn
    rw [EE, Ex_ext hI]
    unfold libT repX joinX itoaX
    rw [if_neg (by decide), if_neg (by decide), if_pos rfl]
    simp only
    rw [if_pos (show -9223372036854775808 ≤ n ∧ n ≤ 9223372036854775807 from hn)]
  · intro σ l a sep ha h1 h2
    obtain ⟨els, hs, hall⟩ := ha
    have he : els = l.map (fun t => [.str t]) := (hall.imp (fun m cs h => h.1)).eq_map
    have hx : allSome strOfCell els = some l := by
      rw [he]
      clear hs hall he h1 h2
      induction l with
      | nil => rfl
      | cons t l ih => simp only [List.map_cons, allSome, strOfCell, Option.bind_some, ih]
    rw [EE, Ex_ext hJ]
    unfold libT repX joinX
    rw [if_neg (by decide), if_pos rfl]
    simp only
    have hs' : elsOf ⟨[], σ⟩ 1 (.v a) = some els := hs
    rw [hs', Option.bind_some, hx, Option.bind_some, if_pos ⟨by omega, h2⟩]
end Go.X
