/-
  THE LAW 'FnExactTurnHill': its walk, over the contracts of the two functions. (Printed by a program of mine.)
-/
import Derived.Test.YtobghfjkkkfecaaH4
import Derived.Test.YtobghfjkkkfecaaH8
import Derived.Test.YtobghfjkkkfecaaLFnExactTurnHill
set_option linter.unusedSimpArgs false
set_option linter.unusedVariables false
namespace Go.Proofs.Ytobghfjkkkfecaa
open Go.RowKit Go.Fl

set_option maxRecDepth 100000 in
set_option maxHeartbeats 8000000 in
theorem walkFnExactTurnHill (w : World) (Wa Ha : Int) (aoa : Option Addr) (na ca : Nat) (xsa : List Nat) (hM_a : na ≤ maxLen) (hR_a : FRow w aoa na xsa)  :
    Calls Try.prog 6 #[hillV Wa Ha aoa na ca] w (fun e w' => e = .returned (.bool true) ∧ Bel w w') := by
  by_cases hn0 : na ≤ 1048576
  · skip
    have hL_a := Lib.hid (frow_lt hR_a)
    replace hR_a := Lib.hid hR_a
    exact lawFnExactTurnHill w Wa Ha aoa na ca xsa  (turnR Wa Ha na xsa) (turnR_n _ _ _ _)
      (fun w' ao c h => sTurnHill_any w' Wa Ha ao na c xsa h (by omega))
      (fun w' ao c h => iTurnHill_any w' Wa Ha ao na c xsa h (by omega))
      hR_a.out (by omega)
  · have hL_a := Lib.hid (frow_lt hR_a)
    replace hR_a := Lib.hid hR_a
    go_enter Try.func6, Try.ntmps6
    go_wp2_with fail
    refine (szHill_no _ Wa Ha aoa na ca 1048576 (by omega) hM_a (by omega)).mono ?_
    rintro e w1 ⟨rfl, hB⟩
    replace hB := Lib.hid hB
    go_wp2_with fail
    go_ret
    exact ⟨rfl, ((Bel.refl _).alloc _).trans hB.out⟩
end Go.Proofs.Ytobghfjkkkfecaa
