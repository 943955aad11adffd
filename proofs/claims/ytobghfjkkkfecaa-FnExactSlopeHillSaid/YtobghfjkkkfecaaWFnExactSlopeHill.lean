/-
  THE LAW 'FnExactSlopeHill': its walk, over the contracts of the two functions. (Printed by a program of mine.)
-/
import Derived.Test.YtobghfjkkkfecaaLFnExactSlopeHill
import Derived.Test.YtobghfjkkkfecaaH13
set_option linter.unusedSimpArgs false
set_option linter.unusedVariables false
namespace Go.Proofs.Ytobghfjkkkfecaa
open Go.RowKit Go.Fl

set_option maxRecDepth 100000 in
set_option maxHeartbeats 8000000 in
theorem walkFnExactSlopeHill (W : Int) (hW : (Lit.int .i64 W).wf = true) (H : Int) (hH : (Lit.int .i64 H).wf = true) (x1 : Nat) (h1 : (Lit.float .f32 x1).wf = true) (x2 : Nat) (h2 : (Lit.float .f32 x2).wf = true) (x3 : Nat) (h3 : (Lit.float .f32 x3).wf = true) (w : World) :
    Calls Try.prog 5 #[.int .i64 W, .int .i64 H, .float .f32 x1, .float .f32 x2, .float .f32 x3] w (fun e w' => e = .returned (.bool true) ∧ Bel w w') :=
  lawFnExactSlopeHill w W H x1 x2 x3 (slopeR W H (cn .f32 x1) (cn .f32 x2) (cn .f32 x3)) (slopeR_n _ _ _ _ _) (fun w => sSlopeHill_any w W H x1 x2 x3 _ _ _ (is_wf h1) (is_wf h2) (is_wf h3)) (fun w => iSlopeHill_any w W H x1 x2 x3 _ _ _ (is_wf h1) (is_wf h2) (is_wf h3))
end Go.Proofs.Ytobghfjkkkfecaa
