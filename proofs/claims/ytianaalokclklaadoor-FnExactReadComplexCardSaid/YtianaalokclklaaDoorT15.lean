/-
  THE LAW 'FnExactReadNumbers': its walk.
-/
import Derived.Test.YtianaalokclklaaDoorT14
import Derived.Test.YtianaalokclklaaDoorT10
set_option linter.unusedSimpArgs false
set_option linter.unusedVariables false
namespace Go.Proofs.YtianaalokclklaaDoor
open Go.RowKit Go.Fl

theorem eqAll_of {xs ys : List Nat} {n : Nat} {X : Nat → Nat} (hx : xs.length = n) (hy : ys.length = n) (h1 : ∀ j, j < n → cn .f32 (xs.getD j 0) = X j) (h2 : ∀ j, j < n → cn .f32 (ys.getD j 0) = X j) : eqAll xs ys := by
  intro j
  by_cases hj : j < n
  · rw [h1 j hj, h2 j hj]
  · rw [List.getD_eq_getElem?_getD, List.getD_eq_getElem?_getD, List.getElem?_eq_none (by omega), List.getElem?_eq_none (by omega)]
/-- the variables of the library that the law reads -/
def Fx4 (w : World) : Prop := Errs w ∧ Tz w ∧ MaxL w
theorem fx4_bel {a b : World} (h : Fx4 a) (hb : Bel a b) : Fx4 b := ⟨errs_bel h.1 hb, tz_bel h.2.1 hb, maxl_bel h.2.2 hb⟩
set_option maxRecDepth 100000 in
set_option maxHeartbeats 2000000 in
theorem walkRN (w : World) (l : List UInt8) (hf : Fx4 w) : Calls Tryd.prog 8 #[.string ⟨l.toArray⟩] w (fun e w' => e = .returned (.bool true) ∧ Bel w w') := by
  have hsz := size_at l
  obtain ⟨n, hn⟩ : ∃ n, n = l.length := ⟨_, rfl⟩
  rw [← hn] at hsz
  replace hn := Lib.hid hn
  by_cases hnz : n ≤ 1048576
  · obtain ⟨N, hN2⟩ : ∃ N, N = rdN l := ⟨_, rfl⟩
    have hN64 : N ≤ 256 := by rw [hN2]; exact rdN_le l
    obtain ⟨B, hB⟩ : ∃ B, B = rdB l := ⟨_, rfl⟩
    replace hN2 := Lib.hid hN2
    replace hB := Lib.hid hB
    have hF := Lib.hid hf
    clear hf
    go_enter Tryd.func8, Tryd.ntmps8
    go_wp2_with fail
    refine (sReadNumbers_any w l (by have := hn.out; omega)).mono ?_
    rintro e w1 ⟨xs, ao, c, rfl, hO, hX, hB1⟩
    rw [← hN2.out] at hO hX
    rw [← hN2.out, ← hB.out]
    have hA := Lib.hid hO
    have hW := Lib.hid hB1
    have hs1 := Lib.hid hB1.size
    have hXs := Lib.hid hX
    clear hO hB1 hX
    go_wp2_with fail
    have hFw := Lib.hid (fx4_bel hF.out hW.out)
    refine (iReadNumbers_any w1 l (by have := hn.out; omega) hFw.out.1 hFw.out.2.1 hFw.out.2.2).mono ?_
    rintro e w2 ⟨ys, bo, d, rfl, hO, hX, hB1⟩
    rw [← hN2.out] at hO hX
    rw [← hN2.out, ← hB.out]
    have hI := Lib.hid hO
    replace hA := Lib.hid (hA.out.bel hB1)
    replace hW := Lib.hid (hW.out.trans hB1)
    have he1 := Lib.hid (eqAll_of hI.out.row.len hA.out.row.len hX hXs.out)
    clear hO hB1 hFw hX
    have hsp := Lib.hid (show ∀ a b, ao = some a → bo = some b → b.block ≠ a.block from fun a b ha hb => by
      have h1 := (hA.out.own a ha).2.1
      have h2 := (hI.out.own b hb).1
      omega)
    go_wp2_with fail
    refine (eqF32 w2 bo ao N d c ys xs hI.out.row hA.out.row (by omega) he1.out).mono ?_
    rintro e w3 ⟨rfl, hB1⟩
    have hD := (Bel.refl w2).dr hB1
    replace hA := Lib.hid (hA.out.bel hD)
    replace hI := Lib.hid (hI.out.bel hD)
    replace hW := Lib.hid (hW.out.trans hD)
    clear hB1 hD
    go_wp2_with fail
    refine (markF32 w3 w1.heap.size w2.heap.size bo N d 1 ys hI.out (by omega) (by omega)).mono ?_
    rintro e w4 ⟨rfl, hIm, hOn⟩
    replace hA := Lib.hid (hA.out.only hOn hsp.out)
    replace hW : Hid (Bel w w4) := Lib.hid (Below.trans hW.out (hOn.below (B := w.heap.size) (fun a ha => by have := (hIm.own a ha).1; have := hs1.out; omega)))
    replace hI := Lib.hid hIm
    clear hIm hOn
    go_wp2_with fail
    refine (heldF32 w4 bo N d 1 hI.out.row (by omega) (by omega)).mono ?_
    rintro e w5 ⟨rfl, hB1⟩
    have hD := (Bel.refl w4).dr hB1
    replace hA := Lib.hid (hA.out.bel hD)
    replace hI := Lib.hid (hI.out.bel hD)
    replace hW := Lib.hid (hW.out.trans hD)
    clear hB1 hD
    have h1N : ¬ (((1 + N : Nat) : Int) < 0) := by omega
    go_wp2_with fail
    have hFw := Lib.hid (fx4_bel hF.out hW.out)
    refine (iReadNumbers_any w5 l (by have := hn.out; omega) hFw.out.1 hFw.out.2.1 hFw.out.2.2).mono ?_
    rintro e w6 ⟨zs, co, d2, rfl, hO, hX, hB1⟩
    rw [← hN2.out] at hO hX
    rw [← hN2.out, ← hB.out]
    have hC := Lib.hid hO
    replace hA := Lib.hid (hA.out.bel hB1)
    replace hI := Lib.hid (hI.out.bel hB1)
    replace hW := Lib.hid (hW.out.trans hB1)
    have he2 := Lib.hid (eqAll_of hC.out.row.len hA.out.row.len hX hXs.out)
    clear hO hB1 hFw hX
    go_wp2_with fail
    refine (eqF32 w6 co ao N d2 c zs xs hC.out.row hA.out.row (by omega) he2.out).mono ?_
    rintro e w7 ⟨rfl, hB1⟩
    have hD := (Bel.refl w6).dr hB1
    replace hI := Lib.hid (hI.out.bel hD)
    replace hW := Lib.hid (hW.out.trans hD)
    clear hB1 hD
    go_wp2_with fail
    refine (heldF32 w7 bo N d 1 hI.out.row (by omega) (by omega)).mono ?_
    rintro e w8 ⟨rfl, hB1⟩
    have hD := (Bel.refl w7).dr hB1
    replace hW := Lib.hid (hW.out.trans hD)
    clear hB1 hD
    go_wp2_with fail
    go_ret
    exact ⟨rfl, hW.out⟩
  · go_enter Tryd.func8, Tryd.ntmps8
    go_wp2_with fail
    go_ret
    exact ⟨rfl, Bel.refl _⟩
theorem walkFnExactReadNumbers (w : World) (s : ByteArray) (hs : s.size ≤ maxLen) (h : Fx4 w) : Calls Tryd.prog 8 #[.string s] w (fun e w' => e = .returned (.bool true) ∧ Bel w w') := by
  obtain ⟨⟨l⟩⟩ := s
  exact walkRN w l h
theorem factsFnExactReadNumbers {W : World} (h : laidMet Tryd.prog Rows.fnExactReadNumbersRow.laid W) (hs : W.ShapedOpen Tryd.prog) : Fx4 W :=
  ⟨⟨sent (h.tail.tail.tail.tail.tail) gES gESt, sent (h.tail.tail.tail.tail) gER gERt⟩,
    tz_of h.tail,
    Go.Proofs.cell_of_shapedOpen_int (zero := #[.int .i64 0]) (t := 3) hs (of_decide_eq_true (by kernel_rfl)) (by kernel_rfl) rfl (by kernel_rfl) (by kernel_rfl) Tryd.underlying3⟩
end Go.Proofs.YtianaalokclklaaDoor
