/-
  THE LAW 'FnExactRoughHill': its walk, over the contracts of the two functions. (Printed by a program of mine.)
-/
import Derived.Test.YtobghfjkkkfecaaH4
import Derived.Test.YtobghfjkkkfecaaH34
import Derived.Test.YtobghfjkkkfecaaLFnExactRoughHill
set_option linter.unusedSimpArgs false
set_option linter.unusedVariables false
namespace Go.Proofs.Ytobghfjkkkfecaa
open Go.RowKit Go.Fl

set_option maxRecDepth 100000 in
set_option maxHeartbeats 8000000 in
theorem walkFnExactRoughHill (w : World) (Wa Ha : Int) (aoa : Option Addr) (na ca : Nat) (xsa : List Nat) (hM_a : na ≤ maxLen) (hR_a : FRow w aoa na xsa) (by' : Nat) (hby : (Lit.float .f32 by').wf = true) (sd : Int) (hsd : (Lit.int .i64 sd).wf = true) :
    Calls Try.prog 11 #[hillV Wa Ha aoa na ca, .float .f32 by', .int .i64 sd] w (fun e w' => e = .returned (.bool true) ∧ Bel w w') := by
  by_cases hn0 : na ≤ 1048576
  · skip
    have hL_a := Lib.hid (frow_lt hR_a)
    replace hR_a := Lib.hid hR_a
    exact lawFnExactRoughHill w Wa Ha aoa na ca xsa by' sd (roughR Wa Ha na xsa (cn .f32 by') sd) (roughZ Wa Ha na xsa (cn .f32 by') sd) (roughR_n _ _ _ _ _ _)
      (fun w' ao c h => sRoughHill_any w' Wa Ha ao na c xsa by' _ sd (is_wf hby) h (by omega))
      (fun w' ao c h => iRoughHill_any w' Wa Ha ao na c xsa by' _ sd (is_wf hby) h (by omega))
      hR_a.out (by omega)
  · have hL_a := Lib.hid (frow_lt hR_a)
    replace hR_a := Lib.hid hR_a
    go_enter Try.func11, Try.ntmps11
    go_wp2_with fail
    refine (szHill_no _ Wa Ha aoa na ca 1048576 (by omega) hM_a (by omega)).mono ?_
    rintro e w1 ⟨rfl, hB⟩
    replace hB := Lib.hid hB
    go_wp2_with fail
    go_ret
    exact ⟨rfl, ((Bel.refl _).alloc _).trans hB.out⟩
end Go.Proofs.Ytobghfjkkkfecaa
