/- What the library's functions without resolved code do here: strings.Repeat, by the shelf's contract. -/
import Derived.Test.YtfifhpmcbfeadaaGreatDoorXSh
import Derived.Test.YtfifhpmcbfeadaaGreatDoorXC2
import Derived.Test.YtfifhpmcbfeadaaGreatDoorXL7
set_option linter.unusedVariables false
set_option linter.unusedSimpArgs false
namespace Go.X
open Go Go.Proofs

/-- strings.Repeat. -/
def repX : Call := fun f args σ =>
  if f = f_strings_Repeat then
    match args with
    | [.str s, .int .i64 n] => if 0 ≤ n ∧ n ≤ 9223372036854775807 ∧ s.length * n.toNat ≤ 140737488355328 then some (.str (Lib.repeatL s n.toNat), σ) else none
    | _ => none
  else none
theorem repX_sound (base : Nat) (W0 : World) : SoundCall Tryz.prog base W0 repX := by
  intro f args st r st' h
  unfold repX at h
  split at h
  · rename_i hf
    subst hf
    split at h
    · rename_i s n
      split at h
      · rename_i hc
        obtain ⟨h0, h1, h2⟩ := hc
        simp only [Option.some.injEq, Prod.mk.injEq] at h
        obtain ⟨rfl, rfl⟩ := h
        refine ⟨⟨Tryz.f60, Tryz.func60, by kernel_rfl, by kernel_rfl⟩, fun c xs hs ho hσ hv => ?_⟩
        obtain ⟨k, rfl⟩ := Int.eq_ofNat_of_zero_le h0
        match xs, hv with
        | [x, y], hv =>
          simp only [VRs] at hv
          obtain ⟨⟨b, rfl, hb⟩, hy, _⟩ := hv
          rw [VR] at hy
          subst hy
          have hlen : b.size * k ≤ 140737488355328 := by
            have : b.size = s.length := by rw [← hb]; rfl
            rw [this]; simpa using h2
          refine (Tryz.strings_Repeat b k c.w (by omega) hlen).mono fun e w' ⟨he, hbel⟩ => ?_
          obtain ⟨b1, b2, b3, b4, b5⟩ := hbel
          have hw := hs.world (X := fun _ => False) (w' := w') b1 b2 b3 b4 (fun b hb => hb.elim) (fun b hb _ => b5 b hb)
          refine ⟨⟨c.β, c.σ, w'⟩, _, he, rfl, hσ, hw.1, hw.2, ?_⟩
          rw [VR]
          refine ⟨_, rfl, ?_⟩
          rw [← hb, Int.toNat_natCast]
      · cases h
    · cases h
  · cases h
theorem repeatL_one (b : UInt8) : ∀ n, Lib.repeatL [b] n = List.replicate n b
  | 0 => rfl
  | n + 1 => by rw [Lib.repeatL, repeatL_one b n]; rfl
theorem repX_rep : RepX repX := by
  intro b n σ hn
  have hC : CC f_strings_Repeat = none := rfl
  rw [EE, Ex_ext hC]
  unfold repX
  rw [if_pos rfl]
  simp only
  rw [if_pos (by simp; omega), Int.toNat_natCast, repeatL_one]
end Go.X
