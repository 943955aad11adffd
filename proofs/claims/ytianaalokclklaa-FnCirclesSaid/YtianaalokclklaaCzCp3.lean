/-
  PLAIN LAWS AND CONTRACTS, part Cp3.
-/
import Derived.Test.YtianaalokclklaaCzCd

/-
  PRODUCTS OF PHASORS, checked by the kernel, part 3. (No program here.)
-/
section
namespace Go.Fl
open Go Ieee
theorem pairs_3 : pairs64 32 = true := by decide +kernel
end Go.Fl
end
