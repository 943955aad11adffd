/-
  THE LAW 'FnExactAddHills': its walk, over the contracts of the two functions. (Printed by a program of mine.)
-/
import Derived.Test.YtobghfjkkkfecaaH4
import Derived.Test.YtobghfjkkkfecaaH12
import Derived.Test.YtobghfjkkkfecaaLFnExactAddHills
set_option linter.unusedSimpArgs false
set_option linter.unusedVariables false
namespace Go.Proofs.Ytobghfjkkkfecaa
open Go.RowKit Go.Fl

set_option maxRecDepth 100000 in
set_option maxHeartbeats 8000000 in
theorem walkFnExactAddHills (w : World) (Wa Ha : Int) (aoa : Option Addr) (na ca : Nat) (xsa : List Nat) (hM_a : na ≤ maxLen) (hR_a : FRow w aoa na xsa) (Wb Hb : Int) (aob : Option Addr) (nb cb : Nat) (xsb : List Nat) (hM_b : nb ≤ maxLen) (hR_b : FRow w aob nb xsb)  :
    Calls Try.prog 7 #[hillV Wa Ha aoa na ca, hillV Wb Hb aob nb cb] w (fun e w' => e = .returned (.bool true) ∧ Bel w w') := by
  by_cases hn0 : na ≤ 1048576
  · skip
    by_cases hn1 : nb ≤ (1048576 - na)
    · skip
      have hL_a := Lib.hid (frow_lt hR_a)
      replace hR_a := Lib.hid hR_a
      have hL_b := Lib.hid (frow_lt hR_b)
      replace hR_b := Lib.hid hR_b
      exact lawFnExactAddHills w Wa Ha aoa na ca xsa Wb Hb aob nb cb xsb  (addR Wa Ha na xsa Wb Hb nb xsb) (addR_n _ _ _ _ _ _ _ _)
        (fun w' ao c ao2 c2 h h2 => sAddHills_any w' Wa Ha ao na c xsa Wb Hb ao2 nb c2 xsb h h2 (by omega) (by omega))
        (fun w' ao c ao2 c2 h h2 => iAddHills_any w' Wa Ha ao na c xsa Wb Hb ao2 nb c2 xsb h h2 (by omega) (by omega))
        hR_a.out hR_b.out (by omega)
    · have hL_a := Lib.hid (frow_lt hR_a)
      replace hR_a := Lib.hid hR_a
      have hL_b := Lib.hid (frow_lt hR_b)
      replace hR_b := Lib.hid hR_b
      go_enter Try.func7, Try.ntmps7
      go_wp2_with fail
      refine (szHill_any _ Wa Ha aoa na ca 1048576 (by omega) (by omega)).mono ?_
      rintro e w1 ⟨rfl, hB⟩
      have hX_a := Lib.hid (((hbox_at w (w.heap.size) (by simp) Wa Ha (.slice aoa na ca) 24).alloc _).bel hB)
      replace hR_a := Lib.hid ((((hR_a.out.alloc _).alloc _)).bel hB)
      have hX_b := Lib.hid ((hbox_at (w.alloc (.cells #[.int .i64 Wa, .int .i64 Ha, .slice aoa na ca] 24)) (w.heap.size + 1) (by simp) Wb Hb (.slice aob nb cb) 24).bel hB)
      replace hR_b := Lib.hid ((((hR_b.out.alloc _).alloc _)).bel hB)
      have hW := Lib.hid (((((Bel.refl w).alloc _).alloc _)).trans hB)
      have hsw1 := Lib.hid (show w.heap.size + 2 ≤ w1.heap.size from by have := Below.size hB; (try simp at this); omega)
      clear hB
      obtain ⟨_, ca0, ca1, ca2⟩ := hX_a.out
      obtain ⟨_, cb0, cb1, cb2⟩ := hX_b.out
      go_wp2_with fail
      clear ca0 ca1 ca2
      clear cb0 cb1 cb2
      refine (szHill_no _ Wb Hb aob nb cb (1048576 - na) (by omega) hM_b (by omega)).mono ?_
      rintro e w2 ⟨rfl, hB⟩
      replace hX_a := Lib.hid ((hX_a.out).bel hB)
      replace hX_b := Lib.hid ((hX_b.out).bel hB)
      replace hR_a := Lib.hid ((hR_a.out).bel hB)
      replace hR_b := Lib.hid ((hR_b.out).bel hB)
      replace hW := Lib.hid ((hW.out).trans hB)
      have hsw2 := Lib.hid (show w1.heap.size + 0 ≤ w2.heap.size from by have := Below.size hB; (try simp at this); omega)
      clear hB
      obtain ⟨_, ca0, ca1, ca2⟩ := hX_a.out
      obtain ⟨_, cb0, cb1, cb2⟩ := hX_b.out
      go_wp2_with fail
      go_ret
      exact ⟨rfl, hW.out⟩
  · have hL_a := Lib.hid (frow_lt hR_a)
    replace hR_a := Lib.hid hR_a
    have hL_b := Lib.hid (frow_lt hR_b)
    replace hR_b := Lib.hid hR_b
    go_enter Try.func7, Try.ntmps7
    go_wp2_with fail
    refine (szHill_no _ Wa Ha aoa na ca 1048576 (by omega) hM_a (by omega)).mono ?_
    rintro e w1 ⟨rfl, hB⟩
    replace hB := Lib.hid hB
    go_wp2_with fail
    go_ret
    exact ⟨rfl, (((Bel.refl _).alloc _).alloc _).trans hB.out⟩
end Go.Proofs.Ytobghfjkkkfecaa
