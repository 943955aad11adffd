/-
  PLAIN LAWS AND CONTRACTS, part Cp2.
-/
import Derived.Test.YtianaalokclklaaCzCd

/-
  PRODUCTS OF PHASORS, checked by the kernel, part 2. (No program here.)
-/
section
namespace Go.Fl
open Go Ieee
theorem pairs_2 : pairs64 16 = true := by decide +kernel
end Go.Fl
end
