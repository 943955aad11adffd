/-
  CONTRACTS: finite numbers; flushed numbers; square roots.
-/
import Derived.Test.YtianaalokclklaaDoorN2
import Derived.Test.YtianaalokclklaaDoorFx
import Derived.Test.YtianaalokclklaaDoorLaw2
set_option linter.unusedSimpArgs false
namespace Go.Proofs.YtianaalokclklaaDoor
open Go.RowKit Go.Fl

theorem fret_lit {k : FloatKind} {b : Nat} {w : World} (h : (decide (b < 2 ^ k.format.width) && !isn k b) = true) : FRet k b w (.returned (.float k b)) w := ⟨b, rfl, Is.lit h, Dr.refl _⟩

theorem l01From_any (X : Nat) (h : X < 4294967296) (w : World) : Calls Tryd.prog 67 #[.int .i64 (X : Int)] w fun e w' => e = .returned (.float .f32 X) ∧ w = w' := by
  go_enter Tryd.func67, Tryd.ntmps67
  go_wp2
  go_ret
  exact ⟨rfl, rfl⟩
end Go.Proofs.YtianaalokclklaaDoor
