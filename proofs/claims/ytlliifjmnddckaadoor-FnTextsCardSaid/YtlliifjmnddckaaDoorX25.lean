/- GoX, part 25: bytes that are read. No statement of the seat is here. -/
import Derived.Test.YtlliifjmnddckaaDoorX24
set_option linter.unusedVariables false
set_option linter.unusedSimpArgs false
namespace Go.X
open Go
theorem br_self {α : Type} (c : Bool) (a : Option α) : br c a a = a := by cases c <;> rfl
def RByte : Rp UInt8 := fun _ b cs => cs = [.int .u8 (b.toNat : Nat)]
theorem RByte.mono : Mono RByte := fun _ _ _ _ h => h
section
variable {H : Type} (enc : TypeId × Value → H) (P : Program) (W : World)
theorem Rd.byte {t : TypeId} (hu : P.underlying t = some (.int .u8)) : Rd enc P W t 1 RByte := by
  intro fuel vs d ps c hg ht
  cases fuel with
  | zero => simp [DataW.trod] at ht
  | succ fuel =>
    unfold DataW.trod at ht
    rw [hu] at ht
    match vs, ht with
    | [], ht => simp at ht
    | v :: w :: vs, ht => cases v <;> simp at ht
    | [v], ht =>
      cases v with
      | int k n =>
        simp only at ht
        split at ht
        · rename_i h
          obtain ⟨rfl, hwf⟩ := h
          have hb : 0 ≤ n ∧ n ≤ 255 := by
            simp [Lit.wf, IntKind.has, IntKind.min, IntKind.max, IntKind.signed, IntKind.bits] at hwf
            omega
          obtain ⟨m, rfl⟩ := Int.eq_ofNat_of_zero_le hb.1
          refine ⟨c, UInt8.ofNat m, [.int .u8 m], Ext.refl c, hg, by simp [VRs, VR], by simp [Value.oneCell'], rfl, ?_⟩
          have : (UInt8.ofNat m).toNat = m := by rw [UInt8.toNat_ofNat']; omega
          unfold RByte
          rw [this]
        · cases ht
      | _ => simp at ht
end
end Go.X
