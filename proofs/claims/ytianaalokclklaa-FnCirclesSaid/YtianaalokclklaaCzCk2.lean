/-
  PLAIN LAWS AND CONTRACTS, part Ck2.
-/
import Derived.Test.YtianaalokclklaaCz7

/-
  TENTHS OF DECIBELS OF PRODUCTS, checked by the kernel, part 2. (No program here.)
-/
section
namespace Go.Fl
open Go Ieee
theorem rows_25 : chkRows 25 5 = true := by decide +kernel
theorem rows_30 : chkRows 30 4 = true := by decide +kernel
theorem rows_34 : chkRows 34 4 = true := by decide +kernel
theorem rows_38 : chkRows 38 4 = true := by decide +kernel
end Go.Fl
end
