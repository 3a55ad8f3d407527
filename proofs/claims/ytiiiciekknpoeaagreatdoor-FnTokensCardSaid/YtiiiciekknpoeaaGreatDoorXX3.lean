/- The listed variables: what strconv's contracts ask of the world at the call. -/
import Derived.Test.YtiiiciekknpoeaaGreatDoorXX2
import Derived.Test.YtiiiciekknpoeaaGreatDoorRows
import Derived.Stop.LaidErr
import Derived.Lib.LaidTab
import Derived.KernelRfl
set_option linter.unusedVariables false
set_option linter.unusedSimpArgs false
namespace Go.X
open Go Go.Proofs

theorem star_err : "*" ++ "errors.errorString" = "*errors.errorString" := by decide
theorem row_err (u : TypeId) (h : Program.typeName? Tryz.prog 3 u = some "*errors.errorString") : u = 103 :=
  typeName_ptr_named (nm := "errors.errorString") (by rw [star_err]; kernel_rfl) (by kernel_rfl) (by decide) u (by rw [star_err]; exact h)
/-- The list of variables of the rows that call strconv. -/
def laidL : List (String × DataW Unit) := [("math/bits.deBruijn32tab", YtiiiciekknpoeaaGreatDoor.Rows.laid_math_bits_deBruijn32tab), ("math/bits.deBruijn64tab", YtiiiciekknpoeaaGreatDoor.Rows.laid_math_bits_deBruijn64tab), ("internal/strconv.uint64pow10", YtiiiciekknpoeaaGreatDoor.Rows.laid_internal_strconv_uint64pow10), ("strconv.ErrRange", YtiiiciekknpoeaaGreatDoor.Rows.laid_strconv_ErrRange), ("strconv.ErrSyntax", YtiiiciekknpoeaaGreatDoor.Rows.laid_strconv_ErrSyntax)]
theorem libX_laid (W : World) (h : laidMet Tryz.prog laidL W) : SoundCall Tryz.prog W.heap.size W libX := by
  have h1 : laidMet Tryz.prog (("internal/strconv.uint64pow10", Lib.tabData .u64 Lib.pow10Tab) :: [("strconv.ErrRange", YtiiiciekknpoeaaGreatDoor.Rows.laid_strconv_ErrRange), ("strconv.ErrSyntax", YtiiiciekknpoeaaGreatDoor.Rows.laid_strconv_ErrSyntax)]) W := h.tail.tail
  have h2 : laidMet Tryz.prog (("strconv.ErrRange", YtiiiciekknpoeaaGreatDoor.Rows.laid_strconv_ErrRange) :: [("strconv.ErrSyntax", YtiiiciekknpoeaaGreatDoor.Rows.laid_strconv_ErrSyntax)]) W := h.tail.tail.tail
  have h3 : laidMet Tryz.prog (("strconv.ErrSyntax", YtiiiciekknpoeaaGreatDoor.Rows.laid_strconv_ErrSyntax) :: []) W := h.tail.tail.tail.tail
  have t1 := Lib.tabIs_of_head (g := 3) (by kernel_rfl) (by kernel_rfl) Tryz.underlying107 Tryz.underlying90 (by kernel_rfl) (by kernel_rfl) h1
  obtain ⟨a2, s2, v2, _⟩ := laid_sentinel (g := 2) h2 (by kernel_rfl) (by kernel_rfl) Tryz.underlying62 row_err Tryz.underlying103 Tryz.underlying105 rfl rfl Tryz.underlying9 (by kernel_rfl) (by kernel_rfl)
  obtain ⟨a3, s3, v3, _⟩ := laid_sentinel (g := 1) h3 (by kernel_rfl) (by kernel_rfl) Tryz.underlying62 row_err Tryz.underlying103 Tryz.underlying105 rfl rfl Tryz.underlying9 (by kernel_rfl) (by kernel_rfl)
  exact libX_sound W t1 ⟨_, _, v3⟩ ⟨_, _, v2⟩
end Go.X
