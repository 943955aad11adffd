/-
  PLAIN LAWS AND CONTRACTS, part Ck1.
-/
import Derived.Test.YtianaalokclklaaCz7

/-
  TENTHS OF DECIBELS OF PRODUCTS, checked by the kernel, part 1. (No program here.)
-/
section
namespace Go.Fl
open Go Ieee
theorem rows_0 : chkRows 0 10 = true := by decide +kernel
theorem rows_10 : chkRows 10 6 = true := by decide +kernel
theorem rows_16 : chkRows 16 5 = true := by decide +kernel
theorem rows_21 : chkRows 21 4 = true := by decide +kernel
end Go.Fl
end
