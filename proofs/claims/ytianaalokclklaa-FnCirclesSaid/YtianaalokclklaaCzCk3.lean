/-
  PLAIN LAWS AND CONTRACTS, part Ck3.
-/
import Derived.Test.YtianaalokclklaaCz7

/-
  TENTHS OF DECIBELS OF PRODUCTS, checked by the kernel, part 3. (No program here.)
-/
section
namespace Go.Fl
open Go Ieee
theorem rows_42 : chkRows 42 3 = true := by decide +kernel
theorem rows_45 : chkRows 45 3 = true := by decide +kernel
theorem rows_48 : chkRows 48 3 = true := by decide +kernel
theorem rows_51 : chkRows 51 4 = true := by decide +kernel
end Go.Fl
end
