/-
  CONTRACTS: where a cell falls, the program's.
-/
import Derived.Test.YtobghfjkkkfecaaH26
set_option linter.unusedSimpArgs false
set_option linter.unusedVariables false
namespace Go.Proofs.Ytobghfjkkkfecaa
open Go.RowKit Go.Fl

set_option maxHeartbeats 2000000 in
theorem iFallAt_any (w : World) (W H : Int) (ao : Option Addr) (n c : Nat) (xs : List Nat) (i : Int) (hA : FRow w ao n xs) (hm : n ≤ 1048576) :
    Calls Try.prog 40 #[hillV W H ao n c, .int .i64 i] w (FARet (fallAtR W H n xs i) w) := by
  have hA' := Lib.hid (hA.alloc (.cells #[.int .i64 W, .int .i64 H, .slice ao n c] 27))
  have hX := Lib.hid (hbox_new w W H (.slice ao n c) 27)
  have hW := Lib.hid ((Bel.refl w).alloc (.cells #[.int .i64 W, .int .i64 H, .slice ao n c] 27))
  have hat := Lib.hid hA.at0
  clear hA
  cases hci : cellB W H n xs i with
  | false =>
    have hO := Lib.hid (show fallAtR W H n xs i = (0, 0, false) by unfold fallAtR; rw [hci]; rfl)
    replace hci := Lib.hid hci
    go_enter Try.func40, Try.ntmps40
    go_wp2_with fail
    refine (isCell_any _ W H _ _ _ xs i hA'.out hm).mono ?_
    rintro e w1 ⟨rfl, hB⟩
    rw [hci.out]
    replace hW := Lib.hid (hW.out.trans hB)
    clear hB
    go_wp2_with fail
    go_ret3
    rw [hO.out]
    exact ⟨0, rfl, Is.lit (by decide +kernel), hW.out⟩
  | true =>
    obtain ⟨a, b, i', rfl, rfl, ha1, ha2, hb1, hb2, rfl, rfl, hil⟩ := cell_nat hci
    obtain ⟨bo, off, rfl, _⟩ := hat.out (show 0 < b * a by omega)
    have hO := Lib.hid (show fallAtR a b (b * a) xs i' = if fin32B (fallK a b xs i' 8).2 then ((fallK a b xs i' 8).1, (fallK a b xs i' 8).2, true) else (0, 0, false) by unfold fallAtR; rw [hci]; simp)
    replace hci := Lib.hid hci
    clear hat
    go_enter Try.func40, Try.ntmps40
    go_wp2_with fail
    refine (isCell_any _ a b _ _ _ xs i' hA'.out hm).mono ?_
    rintro e w1 ⟨rfl, hB⟩
    rw [hci.out]
    replace hW := Lib.hid (hW.out.trans hB)
    replace hX := Lib.hid (hX.out.bel hB)
    replace hA' := Lib.hid (hA'.out.bel hB)
    clear hB
    obtain ⟨_, x0, x1, x2⟩ := hX.out
    go_wp2_with fail
    refine (fall_any w1 a b bo off c xs i' ha1 ha2 hb1 hb2 hil hA'.out).mono ?_
    rintro e w2 ⟨r, rfl, hr, hB⟩
    replace hW := Lib.hid (hW.out.trans hB)
    clear hB x0 x1 x2
    obtain ⟨p, hp⟩ : ∃ p, p = fallK a b xs i' 8 := ⟨_, rfl⟩
    have hO2 := hO.out
    clear hO
    rw [← hp] at hr hO2
    rw [← hp]
    have hO := Lib.hid hO2
    clear hO2
    replace hp := Lib.hid hp
    go_wp2_with fail
    refine (iIsFinite_any _ _ hr _).mono ?_
    rintro e w3 ⟨rfl, hD⟩
    replace hW := Lib.hid (hW.out.trans (dr_bel hD))
    clear hD
    cases hok : fin32B p.2 with
    | false =>
      have hR := Lib.hid (show fallAtR a b (b * a) xs i' = (0, 0, false) by rw [hO.out, hok]; rfl)
      go_wp2_with fail
      go_ret3
      rw [hR.out]
      exact ⟨0, rfl, Is.lit (by decide +kernel), hW.out⟩
    | true =>
      have hR := Lib.hid (show fallAtR a b (b * a) xs i' = (p.1, p.2, true) by rw [hO.out, hok]; rfl)
      go_wp2_with fail
      go_ret3
      rw [hR.out]
      exact ⟨r, rfl, hr, hW.out⟩
end Go.Proofs.Ytobghfjkkkfecaa
