/-
  PLAIN LAWS AND CONTRACTS, part Cp4.
-/
import Derived.Test.YtianaalokclklaaCzCd

/-
  PRODUCTS OF PHASORS, checked by the kernel, part 4. (No program here.)
-/
section
namespace Go.Fl
open Go Ieee
theorem pairs_4 : pairs64 48 = true := by decide +kernel
end Go.Fl
end
