/-
  PLAIN LAWS AND CONTRACTS, part Ck7.
-/
import Derived.Test.YtianaalokclklaaCz7

/-
  TENTHS OF DECIBELS OF PRODUCTS, checked by the kernel, part 7. (No program here.)
-/
section
namespace Go.Fl
open Go Ieee
theorem rows_93 : chkRows 93 3 = true := by decide +kernel
theorem rows_96 : chkRows 96 3 = true := by decide +kernel
theorem rows_99 : chkRows 99 1 = true := by decide +kernel
end Go.Fl
end
