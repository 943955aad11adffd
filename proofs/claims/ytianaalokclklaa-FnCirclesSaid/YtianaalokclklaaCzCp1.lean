/-
  PLAIN LAWS AND CONTRACTS, part Cp1.
-/
import Derived.Test.YtianaalokclklaaCzCd

/-
  PRODUCTS OF PHASORS, checked by the kernel, part 1. (No program here.)
-/
section
namespace Go.Fl
open Go Ieee
theorem pairs_1 : pairs64 0 = true := by decide +kernel
end Go.Fl
end
