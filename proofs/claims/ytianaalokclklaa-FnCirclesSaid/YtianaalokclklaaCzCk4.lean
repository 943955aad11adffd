/-
  PLAIN LAWS AND CONTRACTS, part Ck4.
-/
import Derived.Test.YtianaalokclklaaCz7

/-
  TENTHS OF DECIBELS OF PRODUCTS, checked by the kernel, part 4. (No program here.)
-/
section
namespace Go.Fl
open Go Ieee
theorem rows_55 : chkRows 55 4 = true := by decide +kernel
theorem rows_59 : chkRows 59 4 = true := by decide +kernel
theorem rows_63 : chkRows 63 3 = true := by decide +kernel
theorem rows_66 : chkRows 66 3 = true := by decide +kernel
end Go.Fl
end
