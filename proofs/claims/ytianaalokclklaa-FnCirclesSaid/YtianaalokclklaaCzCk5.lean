/-
  PLAIN LAWS AND CONTRACTS, part Ck5.
-/
import Derived.Test.YtianaalokclklaaCz7

/-
  TENTHS OF DECIBELS OF PRODUCTS, checked by the kernel, part 5. (No program here.)
-/
section
namespace Go.Fl
open Go Ieee
theorem rows_69 : chkRows 69 3 = true := by decide +kernel
theorem rows_72 : chkRows 72 3 = true := by decide +kernel
theorem rows_75 : chkRows 75 3 = true := by decide +kernel
theorem rows_78 : chkRows 78 3 = true := by decide +kernel
end Go.Fl
end
