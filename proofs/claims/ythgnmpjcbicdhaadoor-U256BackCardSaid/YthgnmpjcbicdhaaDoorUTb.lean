/- The tables of powers of ten, as the row's list lays them. -/
import Derived.Test.YthgnmpjcbicdhaaDoorLdG
import Derived.Test.YthgnmpjcbicdhaaDoorTxt
import Derived.Lib.ItoaNum
set_option linter.unusedVariables false
set_option linter.unusedSimpArgs false
namespace Go.Proofs.YthgnmpjcbicdhaaDoor
open Go Go.ChangeShapes Go.WideShapes Go.ChangeAt Go.RowKit
theorem pow10_of {rest : List (String × DataW Unit)} {W : World} (h : laidMet Tryd.prog (("internal/strconv.uint64pow10", Rows.laid_internal_strconv_uint64pow10) :: rest) W) : Lib.TabIs Tryd.prog W "internal/strconv.uint64pow10" .u64 Lib.pow10Tab := by
  have hg : Tryd.prog.globalNamed "internal/strconv.uint64pow10" = some 5 := by kernel_rfl
  exact Lib.tabIs_of_head (name := "internal/strconv.uint64pow10") (k := .u64) (zs := Lib.pow10Tab) (rest := rest) (n := 20) hg (by kernel_rfl) Tryd.underlying47 Tryd.underlying22 (by kernel_rfl) (by kernel_rfl) h
theorem tens_of {rest : List (String × DataW Unit)} {W : World} (h : laidMet Tryd.prog (("waybill/u256.tens", Rows.laid_waybill_u256_tens) :: rest) W) : TensIn W := by
  have hg : Tryd.prog.globalNamed "waybill/u256.tens" = some 0 := by kernel_rfl
  have := Lib.tabIs_of_head (name := "waybill/u256.tens") (k := .u64) (zs := Lib.pow10Tab) (rest := rest) (n := 20) hg (by kernel_rfl) Tryd.underlying47 Tryd.underlying22 (by kernel_rfl) (by kernel_rfl) h
  intro j hj
  have h1 := this.cell hg j hj
  rw [h1, Lib.pow10Tab_at j hj]
end Go.Proofs.YthgnmpjcbicdhaaDoor

