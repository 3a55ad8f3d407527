/- Tokens: signs and quotes. -/
import Derived.Test.YtfifhpmcbfeadaaGreatDoorXD4
import Derived.Test.YtfifhpmcbfeadaaGreatDoorXK1
import Derived.Test.YtfifhpmcbfeadaaGreatDoorXL2
set_option linter.unusedVariables false
set_option linter.unusedSimpArgs false
set_option maxRecDepth 20000
namespace Go.X
open Go Go.Lib
variable {X : Call}

theorem b39i (a : UInt8) : ((((a.toNat : Nat) : Int)) == 39) = (a == 39) := by
  rw [Bool.eq_iff_iff]; simp only [beq_iff_eq]
  constructor
  · intro h; apply UInt8.toNat_inj.1; have : a.toNat = 39 := by omega
    rw [this]; rfl
  · intro h; subst h; rfl
theorem b92i (a : UInt8) : ((((a.toNat : Nat) : Int)) == 92) = (a == 92) := by
  rw [Bool.eq_iff_iff]; simp only [beq_iff_eq]
  constructor
  · intro h; apply UInt8.toNat_inj.1; have : a.toNat = 92 := by omega
    rw [this]; rfl
  · intro h; subst h; rfl
theorem bbi (a b : UInt8) : ((((a.toNat : Nat) : Int)) == ((b.toNat : Nat) : Int)) = (a == b) := by
  rw [Bool.eq_iff_iff]; simp only [beq_iff_eq]
  constructor
  · intro h; apply UInt8.toNat_inj.1; omega
  · intro h; subst h; rfl

/-! ### Signs -/

end Go.X
