/-
  PLAIN LAWS AND CONTRACTS, part Ck6.
-/
import Derived.Test.YtianaalokclklaaCz7

/-
  TENTHS OF DECIBELS OF PRODUCTS, checked by the kernel, part 6. (No program here.)
-/
section
namespace Go.Fl
open Go Ieee
theorem rows_81 : chkRows 81 3 = true := by decide +kernel
theorem rows_84 : chkRows 84 3 = true := by decide +kernel
theorem rows_87 : chkRows 87 3 = true := by decide +kernel
theorem rows_90 : chkRows 90 3 = true := by decide +kernel
end Go.Fl
end
