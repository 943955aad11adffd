/-
  THE LAW 'FnExactConeHill': its walk, over the contracts of the two functions. (Printed by a program of mine.)
-/
import Derived.Test.YtobghfjkkkfecaaLFnExactConeHill
import Derived.Test.YtobghfjkkkfecaaH14
set_option linter.unusedSimpArgs false
set_option linter.unusedVariables false
namespace Go.Proofs.Ytobghfjkkkfecaa
open Go.RowKit Go.Fl

set_option maxRecDepth 100000 in
set_option maxHeartbeats 8000000 in
theorem walkFnExactConeHill (W : Int) (hW : (Lit.int .i64 W).wf = true) (H : Int) (hH : (Lit.int .i64 H).wf = true) (x1 : Nat) (h1 : (Lit.float .f32 x1).wf = true) (x2 : Nat) (h2 : (Lit.float .f32 x2).wf = true) (w : World) :
    Calls Try.prog 13 #[.int .i64 W, .int .i64 H, .float .f32 x1, .float .f32 x2] w (fun e w' => e = .returned (.bool true) ∧ Bel w w') :=
  lawFnExactConeHill w W H x1 x2 (coneR W H (cn .f32 x1) (cn .f32 x2)) (coneR_n _ _ _ _) (fun w => sConeHill_any w W H x1 x2 _ _ (is_wf h1) (is_wf h2)) (fun w => iConeHill_any w W H x1 x2 _ _ (is_wf h1) (is_wf h2))
end Go.Proofs.Ytobghfjkkkfecaa
