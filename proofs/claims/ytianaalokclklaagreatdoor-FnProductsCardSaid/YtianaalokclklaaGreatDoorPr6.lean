/-
  PLAIN LAWS AND CONTRACTS, part 6: several texts laid behind one another.
-/
import Derived.Test.YtianaalokclklaaGreatDoorPr5
import Derived.Handed
import Derived.ProofKit

/-
  THE LAW 'FnProducts': its walk.
-/
section
set_option exponentiation.threshold 5000
set_option linter.unusedSimpArgs false
set_option linter.unusedVariables false
namespace Go.Proofs.YtianaalokclklaaGreatDoor
open Go.RowKit Go.Fl

theorem f32_int {p : Int} (h : p.natAbs ≤ 200) (w : World) : (convert 28 2 (.float .f32 (fw p))).run Tryz.prog w = .ok (.int .i64 p) w :=
  run_convert_float_int _ 28 2 .f32 .i64 _ p (by rw [Tryz.underlying28]; rfl) Tryz.underlying2 (part_int h)
theorem add_self {p q : Int} (hp : p.natAbs ≤ 200) (hq : q.natAbs ≤ 200) (w : World) : (binOp .add 24 (.complex .f32 (fw p) (fw q)) (.complex .f32 (fw p) (fw q))).run Tryz.prog w = .ok (.complex .f32 (fop .add .f32 (fw p) (fw p)) (fop .add .f32 (fw q) (fw q))) w :=
  run_complex_sum _ .add (.inl rfl) _ .f32 _ _ _ _ _ _ (by unfold cSumBits; rw [part_add hp, part_add hq]; rfl)
theorem fne_of_feq {k : FloatKind} {X Y : Nat} (h : feq k X Y = true) : fne k X Y = false := by
  unfold feq at h; unfold fne
  rw [bne, h]; rfl
set_option maxRecDepth 100000 in
set_option maxHeartbeats 4000000 in
theorem products_at (w : World) (ao : Option Addr) (n c : Nat) (z : Nat → Int) (bo : Option Addr) (m d : Nat) (y : Nat → Int) (hA : IRow .u8 w ao n z) (hB : IRow .u8 w bo m y) (hn : n ≤ 1048576) (hm : m ≤ 1048576) (hf : Fx4 w) :
    Calls Tryz.prog 3 #[.slice ao n c, .slice bo m d] w (fun e w' => e = .returned (.bool true) ∧ Bel w w') := by
  have hA' := Lib.hid hA
  have hB' := Lib.hid hB
  have hF := Lib.hid hf
  clear hA hB hf
  go_enter Tryz.func3, Tryz.ntmps3
  go_wp2_with fail
  refine (b10Long_any _ _ _ _ _ _ _ hn hm).mono ?_
  rintro e w' ⟨rfl, rfl⟩
  go_wp2_with fail
  refine (b10Whole_any w ao n c z hA'.out hn).mono ?_
  rintro e w1 ⟨p, q, lo1, c1, rfl, hp, hq, hO, hB1⟩
  obtain ⟨b1, off1, rfl, _, hcell⟩ := hO.row.at0 (by omega)
  have h1 : w1.cell? ⟨b1, off1, none⟩ = some (.complex .f32 (fw p) (fw q)) := hcell 0 (by omega)
  have hW1 := Lib.hid hB1
  clear hcell hO hB1
  go_wp2_with fail
  clear h1
  refine (b10Whole_any w1 bo m d y (hB'.out.bel hW1.out) hm).mono ?_
  rintro e w2 ⟨r, s, lo2, c2, rfl, hr, hs, hO, hB1⟩
  obtain ⟨b2, off2, rfl, _, hcell⟩ := hO.row.at0 (by omega)
  have h1 : w2.cell? ⟨b2, off2, none⟩ = some (.complex .f32 (fw r) (fw s)) := hcell 0 (by omega)
  have hW2 := Lib.hid (hW1.out.trans hB1)
  clear hcell hO hB1 hW1
  go_wp2_with fail
  clear h1
  -- the words and what is known of them
  obtain ⟨A, hAe⟩ : ∃ A, A = fw p := ⟨_, rfl⟩
  obtain ⟨B, hBe⟩ : ∃ B, B = fw q := ⟨_, rfl⟩
  obtain ⟨C, hCe⟩ : ∃ C, C = fw r := ⟨_, rfl⟩
  obtain ⟨D, hDe⟩ : ∃ D, D = fw s := ⟨_, rfl⟩
  have vA : V32 A p := by rw [hAe]; exact vp hp
  have vB : V32 B q := by rw [hBe]; exact vp hq
  have vC : V32 C r := by rw [hCe]; exact vp hr
  have vD : V32 D s := by rw [hDe]; exact vp hs
  obtain ⟨bX, bY⟩ := mul_re_bd hp hq hr hs
  obtain ⟨bX', bY'⟩ := mul_re_bd hr hs hp hq
  have bW1 := mul_le hp hp
  have bW2 := mul_le hq hq
  have t1 := (mul_re vA vB vC vD hp hq hr hs).nar (by omega)
  have t2 := (mul_im vA vB vC vD hp hq hr hs).nar (by omega)
  have t3 := (mul_re vC vD vA vB hr hs hp hq).nar (by omega)
  have t4 := (mul_im vC vD vA vB hr hs hp hq).nar (by omega)
  have t5 := (pow_v vA vB hp hq).nar (by omega)
  have hnq : (-q).natAbs ≤ 200 := by omega
  have bP := mul_le hp hnq
  have bQ := mul_le hq hnq
  have bR := mul_le hq hp
  have t6 := (mul_re vA vB vA vB.neg hp hq hp hnq).nar (by omega)
  have t7 := (mul_im vA vB vA vB.neg hp hq hp hnq).nar (by omega)
  have iA := vA.is
  have iB := vB.is
  have iC := vC.is
  have iD := vD.is
  obtain ⟨X, hXe⟩ : ∃ X, X = p * r - q * s := ⟨_, rfl⟩
  obtain ⟨Y, hYe⟩ : ∃ Y, Y = p * s + q * r := ⟨_, rfl⟩
  obtain ⟨W, hWe⟩ : ∃ W, W = p * p + q * q := ⟨_, rfl⟩
  have vX : V32 (floatOfInt .f32 X) X := V32.ofInt X (by omega)
  have vY : V32 (floatOfInt .f32 Y) Y := V32.ofInt Y (by omega)
  have vW : V32 (floatOfInt .f32 W) W := V32.ofInt W (by omega)
  have iX := Lib.hid vX.is
  have iY := Lib.hid vY.is
  have iW := vW.is
  have v0 : V32 0 0 := V32.ofInt 0 (by decide)
  have z0 := Lib.hid v0.is
  have f1 := Lib.hid (show feq .f32 (nar (mlRe A B C D)) (floatOfInt .f32 X) = true by rw [t1.1.feq vX]; exact decide_eq_true hXe.symm)
  have f2 := Lib.hid (show feq .f32 (nar (mlIm A B C D)) (floatOfInt .f32 Y) = true by rw [t2.1.feq vY]; exact decide_eq_true hYe.symm)
  have f3 := Lib.hid (show feq .f32 (nar (mlRe C D A B)) (nar (mlRe A B C D)) = true by rw [t3.1.feq t1.1]; exact decide_eq_true (by rw [Int.mul_comm r p, Int.mul_comm s q]))
  have f4 := Lib.hid (show feq .f32 (nar (mlIm C D A B)) (nar (mlIm A B C D)) = true by rw [t4.1.feq t2.1]; exact decide_eq_true (by rw [Int.mul_comm r q, Int.mul_comm s p, Int.add_comm]))
  have f5 : fne .f32 (nar (pwF A B)) (floatOfInt .f32 W) = false := fne_of_feq (by rw [t5.1.feq vW]; exact decide_eq_true hWe.symm)
  have f6 := Lib.hid (show feq .f32 (nar (mlRe A B A (fneg .f32 B))) (floatOfInt .f32 W) = true by rw [t6.1.feq vW]; exact decide_eq_true (by rw [hWe, Int.mul_neg]; omega))
  have f7 := Lib.hid (show feq .f32 (nar (mlIm A B A (fneg .f32 B))) 0 = true by rw [t7.1.feq v0]; exact decide_eq_true (by rw [Int.mul_neg, Int.mul_comm q p]; omega))
  have hpw := Lib.hid (show pwF A B = wid (floatOfInt .f32 W) by rw [hAe, hBe, hWe]; exact pow_word hp hq)
  have nL := Lib.hid (show NoOv (fsqrt (pwF A B)) by rw [hpw.out]; exact root_ok vW.can)
  have hq8 := Lib.hid (show ¬ (r = 0 ∧ s = 0) → ∀ {P Q : Nat}, V32 P X → V32 Q Y → (V32 (nar (quRe P Q C D)) p ∧ NoOv (quRe P Q C D)) ∧ (V32 (nar (quIm P Q C D)) q ∧ NoOv (quIm P Q C D)) from fun h0 P Q vP vQ => by
    obtain ⟨k1, k2⟩ := quo_v (p := p) (q := q) (r := r) (s := s) (hXe ▸ vP) (hYe ▸ vQ) vC vD hp hq hr hs h0
    exact ⟨k1.nar (by omega), k2.nar (by omega)⟩)
  have hC0 := Lib.hid (show feq .f32 C 0 = decide (r = 0) from vC.feq v0)
  have hD0 := Lib.hid (show feq .f32 D 0 = decide (s = 0) from vD.feq v0)
  have hs1 := Lib.hid (show feq .f32 (fop .mul .f32 A 1073741824) (fop .add .f32 A A) = true by rw [hAe]; exact part_two hp)
  have hs2 := Lib.hid (show feq .f32 (fop .mul .f32 B 1073741824) (fop .add .f32 B B) = true by rw [hBe]; exact part_two hq)
  have haa : ∀ w, (binOp .add 24 (.complex .f32 A B) (.complex .f32 A B)).run Tryz.prog w = .ok (.complex .f32 (fop .add .f32 A A) (fop .add .f32 B B)) w := by
    rw [hAe, hBe]; exact fun w => add_self hp hq w
  have iA2 := Lib.hid (show Is .f32 (fop .add .f32 A A) (fop .add .f32 A A) from ⟨(fop_can _ _ _ _).1, (fop_can _ _ _ _).2⟩)
  have iB2 := Lib.hid (show Is .f32 (fop .add .f32 B B) (fop .add .f32 B B) from ⟨(fop_can _ _ _ _).1, (fop_can _ _ _ _).2⟩)
  have j1 : ∀ w, (convert 28 2 (.float .f32 A)).run Tryz.prog w = .ok (.int .i64 p) w := by rw [hAe]; exact fun w => f32_int hp w
  have j2 : ∀ w, (convert 28 2 (.float .f32 B)).run Tryz.prog w = .ok (.int .i64 q) w := by rw [hBe]; exact fun w => f32_int hq w
  have j3 : ∀ w, (convert 28 2 (.float .f32 C)).run Tryz.prog w = .ok (.int .i64 r) w := by rw [hCe]; exact fun w => f32_int hr w
  have j4 : ∀ w, (convert 28 2 (.float .f32 D)).run Tryz.prog w = .ok (.int .i64 s) w := by rw [hDe]; exact fun w => f32_int hs w
  obtain ⟨m1, e1⟩ : ∃ m, p * r = m := ⟨_, rfl⟩
  obtain ⟨m2, e2⟩ : ∃ m, q * s = m := ⟨_, rfl⟩
  obtain ⟨m3, e3⟩ : ∃ m, p * s = m := ⟨_, rfl⟩
  obtain ⟨m4, e4⟩ : ∃ m, q * r = m := ⟨_, rfl⟩
  obtain ⟨m5, e5⟩ : ∃ m, p * p = m := ⟨_, rfl⟩
  obtain ⟨m6, e6⟩ : ∃ m, q * q = m := ⟨_, rfl⟩
  have l1 := mul_le hp hr
  have l2 := mul_le hq hs
  have l3 := mul_le hp hs
  have l4 := mul_le hq hr
  rw [e1] at l1
  rw [e2] at l2
  rw [e3] at l3
  rw [e4] at l4
  rw [e5] at bW1
  rw [e6] at bW2
  have x1 : m1 - m2 = X := by rw [hXe, e1, e2]
  have x2 : m3 + m4 = Y := by rw [hYe, e3, e4]
  have x3 : m5 + m6 = W := by rw [hWe, e5, e6]
  have g1 : -40000 ≤ m1 := by omega
  have g1' : m1 ≤ 40000 := by omega
  have g2 : -40000 ≤ m2 := by omega
  have g2' : m2 ≤ 40000 := by omega
  have g3 : -40000 ≤ m3 := by omega
  have g3' : m3 ≤ 40000 := by omega
  have g4 : -40000 ≤ m4 := by omega
  have g4' : m4 ≤ 40000 := by omega
  have g5 : -40000 ≤ m5 := by omega
  have g5' : m5 ≤ 40000 := by omega
  have g6 : -40000 ≤ m6 := by omega
  have g6' : m6 ≤ 40000 := by omega
  have u1 : IntKind.i64.wrap (p * r) = m1 := by rw [e1, IntWalk.i64_in _ (by omega)]
  have u2 : IntKind.i64.wrap (q * s) = m2 := by rw [e2, IntWalk.i64_in _ (by omega)]
  have u3 : IntKind.i64.wrap (p * s) = m3 := by rw [e3, IntWalk.i64_in _ (by omega)]
  have u4 : IntKind.i64.wrap (q * r) = m4 := by rw [e4, IntWalk.i64_in _ (by omega)]
  have u5 : IntKind.i64.wrap (p * p) = m5 := by rw [e5, IntWalk.i64_in _ (by omega)]
  have u6 : IntKind.i64.wrap (q * q) = m6 := by rw [e6, IntWalk.i64_in _ (by omega)]
  have vP := Lib.hid (show V32 (nar (mlRe A B C D)) X by rw [hXe]; exact t1.1)
  have vQ := Lib.hid (show V32 (nar (mlIm A B C D)) Y by rw [hYe]; exact t2.1)
  have no1 := Lib.hid t1.2
  have no2 := Lib.hid t2.2
  have no3 := Lib.hid t3.2
  have no4 := Lib.hid t4.2
  have no5 := Lib.hid t5.2
  have no6 := Lib.hid t6.2
  have no7 := Lib.hid t7.2
  have hAk := Lib.hid vA
  have hBk := Lib.hid vB
  clear t1 t2 t3 t4 t5 t6 t7 bP bQ bR vX vY vW v0 l1 l2 l3 l4 bW1 bW2 bX bY bX' bY' hXe hYe hWe vA vB vC vD e1 e2 e3 e4 e5 e6
  replace hAe := Lib.hid hAe
  replace hBe := Lib.hid hBe
  replace hCe := Lib.hid hCe
  replace hDe := Lib.hid hDe
  rw [← hAe.out, ← hBe.out, ← hCe.out, ← hDe.out]
  refine (mul_any _ _ _ _ _ _ _ _ iA iB iC iD no1.out no2.out _).mono ?_
  rintro e w3 ⟨P1, P2, rfl, hP1, hP2, hD1⟩
  have hW3 := Lib.hid (hW2.out.dr hD1)
  have hP1' := Lib.hid hP1
  have hP2' := Lib.hid hP2
  clear hP1 hP2 hD1 hW2
  have k1 := fun w => run_cneq (P := Tryz.prog) w 24 (v := false) hP1'.out hP2'.out iX.out iY.out (by rw [f1.out, f2.out]; rfl)
  go_wp2_with fail
  refine (mul_any _ _ _ _ _ _ _ _ iC iD iA iB no3.out no4.out _).mono ?_
  rintro e w4 ⟨Q1, Q2, rfl, hQ1, hQ2, hD1⟩
  have hW4 := Lib.hid (hW3.out.dr hD1)
  have k2 := fun w => run_cneq (P := Tryz.prog) w 24 (v := false) hQ1 hQ2 hP1'.out hP2'.out (by rw [f3.out, f4.out]; rfl)
  clear hQ1 hQ2 hD1 hW3 k1
  go_wp2_with fail
  refine (iPowerOf_any _ _ _ _ iA iB no5.out _).mono ?_
  rintro e w5 ⟨R1, rfl, hR1, hD1⟩
  have hW5 := Lib.hid (hW4.out.dr hD1)
  clear hD1 hW4 k2
  go_wp2_with (((with_reducible refine wpList_here ?_); (first | ((with_reducible refine wpList_feq (k := ?_) (bx := ?_) (by' := ?_) (X := ?_) (Y := ?_) ?_ ?_ ?_ ?_ ?_ ?_); rotate_left 5; (first | (with_reducible exact wanted_none) | ((with_reducible refine wanted_some ?_); rfl)); (rfl); (rfl); (first | assumption | ((refine Is.lit ?_); decide +kernel) | (refine Is.ofInt _ _)); (first | assumption | ((refine Is.lit ?_); decide +kernel) | (refine Is.ofInt _ _)); (try simp only [Act.put, List.setIfInBounds_toArray, List.set_cons_succ, List.set_cons_zero, World.drewN_drewN])) | ((with_reducible refine wpList_fne (k := ?_) (bx := ?_) (by' := ?_) (X := ?_) (Y := ?_) ?_ ?_ ?_ ?_ ?_ ?_); rotate_left 5; (first | (with_reducible exact wanted_none) | ((with_reducible refine wanted_some ?_); rfl)); (rfl); (rfl); (first | assumption | ((refine Is.lit ?_); decide +kernel) | (refine Is.ofInt _ _)); (first | assumption | ((refine Is.lit ?_); decide +kernel) | (refine Is.ofInt _ _)); (try simp only [Act.put, List.setIfInBounds_toArray, List.set_cons_succ, List.set_cons_zero, World.drewN_drewN])) | ((with_reducible refine wpList_flt (k := ?_) (bx := ?_) (by' := ?_) (X := ?_) (Y := ?_) ?_ ?_ ?_ ?_ ?_ ?_); rotate_left 5; (first | (with_reducible exact wanted_none) | ((with_reducible refine wanted_some ?_); rfl)); (rfl); (rfl); (first | assumption | ((refine Is.lit ?_); decide +kernel) | (refine Is.ofInt _ _)); (first | assumption | ((refine Is.lit ?_); decide +kernel) | (refine Is.ofInt _ _)); (try simp only [Act.put, List.setIfInBounds_toArray, List.set_cons_succ, List.set_cons_zero, World.drewN_drewN])) | ((with_reducible refine wpList_fle (k := ?_) (bx := ?_) (by' := ?_) (X := ?_) (Y := ?_) ?_ ?_ ?_ ?_ ?_ ?_); rotate_left 5; (first | (with_reducible exact wanted_none) | ((with_reducible refine wanted_some ?_); rfl)); (rfl); (rfl); (first | assumption | ((refine Is.lit ?_); decide +kernel) | (refine Is.ofInt _ _)); (first | assumption | ((refine Is.lit ?_); decide +kernel) | (refine Is.ofInt _ _)); (try simp only [Act.put, List.setIfInBounds_toArray, List.set_cons_succ, List.set_cons_zero, World.drewN_drewN])) | ((with_reducible refine wpList_fgt (k := ?_) (bx := ?_) (by' := ?_) (X := ?_) (Y := ?_) ?_ ?_ ?_ ?_ ?_ ?_); rotate_left 5; (first | (with_reducible exact wanted_none) | ((with_reducible refine wanted_some ?_); rfl)); (rfl); (rfl); (first | assumption | ((refine Is.lit ?_); decide +kernel) | (refine Is.ofInt _ _)); (first | assumption | ((refine Is.lit ?_); decide +kernel) | (refine Is.ofInt _ _)); (try simp only [Act.put, List.setIfInBounds_toArray, List.set_cons_succ, List.set_cons_zero, World.drewN_drewN])) | ((with_reducible refine wpList_fge (k := ?_) (bx := ?_) (by' := ?_) (X := ?_) (Y := ?_) ?_ ?_ ?_ ?_ ?_ ?_); rotate_left 5; (first | (with_reducible exact wanted_none) | ((with_reducible refine wanted_some ?_); rfl)); (rfl); (rfl); (first | assumption | ((refine Is.lit ?_); decide +kernel) | (refine Is.ofInt _ _)); (first | assumption | ((refine Is.lit ?_); decide +kernel) | (refine Is.ofInt _ _)); (try simp only [Act.put, List.setIfInBounds_toArray, List.set_cons_succ, List.set_cons_zero, World.drewN_drewN])))); try simp only [f5])
  refine (iConj_any _ _ _ _ iA iB _).mono ?_
  rintro e w6 ⟨S1, S2, rfl, hS1, hS2, hD1⟩
  have hW6 := Lib.hid (hW5.out.dr hD1)
  clear hD1 hW5 hR1
  go_wp2_with fail
  refine (mul_any _ _ _ _ _ _ _ _ iA iB hS1 hS2 no6.out no7.out _).mono ?_
  rintro e w7 ⟨T1, T2, rfl, hT1, hT2, hD1⟩
  have hW7 := Lib.hid (hW6.out.dr hD1)
  have k3 := fun w => run_cneq (P := Tryz.prog) w 24 (v := false) hT1 hT2 iW z0.out (by rw [f6.out, f7.out]; rfl)
  clear hD1 hW6 hS1 hS2 hT1 hT2
  go_wp2_with fail
  refine (iLongOf_any _ _ _ _ iA iB nL.out _).mono ?_
  rintro e w8 ⟨L1, rfl, hL1, hD1⟩
  rw [hpw.out] at hL1
  have hW8 := Lib.hid (hW7.out.dr hD1)
  replace hL1 := Lib.hid hL1
  clear hD1 hW7 k3
  go_wp2_with fail
  refine (sRootNumber_any _ _ iW _).mono ?_
  rintro e w9 ⟨L2, rfl, hL2, hD1⟩
  have hW9 := Lib.hid (hW8.out.dr hD1)
  replace hL2 := Lib.hid hL2
  clear hD1 hW8
  go_wp2_with fail
  refine (sSameNumber_any _ _ _ _ hL1.out hL2.out _).mono ?_
  rintro e w' ⟨rfl, rfl⟩
  rw [beq_self_eq_true]
  clear hL1 hL2 f5 iW u1 u2 u3 u4 u5 u6 x1 x2 x3 g1 g2 g3 g4 g5 g6 g1' g2' g3' g4' g5' g6' j1 j2 j3 j4
  -- the quotient and the double
  by_cases h0 : r = 0 ∧ s = 0
  · have kb := fun w => run_cneq (P := Tryz.prog) w 24 (v := false) iC iD z0.out z0.out (by rw [hC0.out, hD0.out, h0.1, h0.2]; rfl)
    obtain ⟨w10, hw10⟩ : ∃ w10, w10 = w9 := ⟨_, rfl⟩
    have hW10 : Hid (Bel w w10) := by rw [hw10]; exact hW9
    subst hw10
    clear hW9 h0
    go_wp2_with fail
    refine (iScale_any _ _ _ _ 1073741824 1073741824 iA iB (Is.lit (by decide +kernel)) _).mono ?_
    rintro e w11 ⟨U1, U2, rfl, hU1, hU2, hD1⟩
    have hW11 := Lib.hid (hW10.out.dr hD1)
    have k5 := fun w => run_cneq (P := Tryz.prog) w 24 (v := false) hU1 hU2 iA2.out iB2.out (by rw [hs1.out, hs2.out]; rfl)
    clear hU1 hU2 hD1 hW10
    go_wp2_with fail
    clear k5 haa iA iB iC iD hP1' hP2'
    refine (b10At_any w11 ao n c z (hA'.out.bel hW11.out) 0 (by omega) 9 (by omega) (by omega) hn).mono ?_
    rintro e w' ⟨N, rfl, hN, rfl⟩
    go_wp2_with fail
    refine (b10Any_any w11 bo m d y (hB'.out.bel hW11.out) hm N (by omega)).mono ?_
    rintro e w12 ⟨ps, lo, lc, rfl, hpl, hws, hO, hB1⟩
    have hL12 := Lib.hid hO.row
    have hW12 := Lib.hid (hW11.out.trans hB1)
    have hwd := Lib.hid (show ∀ i, i < N → (fsts ps).getD i 0 < 4294967296 ∧ (snds ps).getD i 0 < 4294967296 from fun i hi => hws i (by omega))
    have hrb := Lib.hid (readC_back (fsts ps) (snds ps) N (by omega) hwd.out)
    clear hO hB1 hW11 hws hpl
    go_wp2_with fail
    refine (iComplexText_any w12 lo N lc _ _ hL12.out hwd.out (by omega) (fx4_bel hF.out hW12.out).2.1).mono ?_
    rintro e w13 ⟨rfl, hB1⟩
    rw [if_pos rfl]
    have hW13 := Lib.hid (hW12.out.trans hB1)
    have hL13 := Lib.hid (hL12.out.bel hB1)
    have hF13 := Lib.hid (fx4_bel hF.out hW13.out)
    have htl := Lib.hid (show (txt (hexc (fsts ps) (snds ps)) N).length ≤ 1048576 by
      by_cases h0 : N = 0
      · subst h0; show [110, 111, 110, 101].length ≤ 1048576; decide
      · have h1 := tx_len (hexc (fsts ps) (snds ps)) 16 N (fun i hi => Nat.le_of_eq (hexc_len _ _ i)) N (Nat.le_refl _)
        have h2 : txt (hexc (fsts ps) (snds ps)) N = tx (hexc (fsts ps) (snds ps)) N := by unfold txt; rw [if_neg h0]
        rw [h2]; omega)
    obtain ⟨T, hT⟩ : ∃ T, T = txt (hexc (fsts ps) (snds ps)) N := ⟨_, rfl⟩
    rw [← hT] at htl hrb ⊢
    clear hB1 hT hW12 hL12
    go_wp2_with fail
    refine (iReadComplex_any w13 T htl.out hF13.out.1 hF13.out.2.1 hF13.out.2.2).mono ?_
    rintro e w14 ⟨us, vs, po, pc8, rfl, hO, hV, hB1⟩
    obtain ⟨q1, q2, q3⟩ := hrb.out
    rw [q2] at hO hV
    rw [q1, q2]
    have hW14 := Lib.hid (hW13.out.trans hB1)
    have hL14 := Lib.hid (hL13.out.bel hB1)
    have hR14 := Lib.hid hO.row
    have hV1 := Lib.hid hV
    have hV2 := Lib.hid (show CSet N (fsts ps) (snds ps) (reX T) (imX T) from fun j hj => by
      obtain ⟨a1, a2⟩ := q3 j hj
      obtain ⟨a3, a4⟩ := hwd.out j hj
      rw [a1, a2]
      exact ⟨is_word a3, is_word a4⟩)
    clear hB1 hO hV q1 q2 q3 hW13 hL13 hF13 hrb htl hwd
    go_wp2_with fail
    refine (b10Number_any w14 ao n c z (hA'.out.bel hW14.out) hn).mono ?_
    rintro e w15 ⟨x, X5, rfl, hx, hB1⟩
    have hW15 := Lib.hid (hW14.out.trans hB1)
    have hL15 := Lib.hid (hL14.out.bel hB1)
    have hR15 := Lib.hid (hR14.out.bel hB1)
    have hx' := Lib.hid hx
    have hX32 := is32_lt hx
    have hok : bitsOk (X5 : Int) = true := by simp [bitsOk]; omega
    have hxx := Lib.hid (show Is .f32 X5 X5 from ⟨by rw [w32]; exact hX32, hx.can.2⟩)
    clear hB1 hx hW14 hL14 hR14
    go_wp2_with fail
    refine (iBitsOf_any x X5 hx'.out _).mono ?_
    rintro e w' ⟨rfl, rfl⟩
    go_wp2_with fail
    refine (iFromBits_any (X5 : Int) _).mono ?_
    rintro e w' ⟨rfl, rfl⟩
    rw [hok, if_pos rfl, Int.toNat_natCast]
    replace hok := Lib.hid hok
    go_wp2_with fail
    refine (b10Complex_any w15 ao n c z (hA'.out.bel hW15.out) hn).mono ?_
    rintro e w16 ⟨r1, s1, R1, S1, rfl, hr1, hs1', hB1⟩
    have hW16 := Lib.hid (hW15.out.trans hB1)
    have hL16 := Lib.hid (hL15.out.bel hB1)
    have hR16 := Lib.hid (hR15.out.bel hB1)
    have hn1 := Lib.hid (nar_wid hr1.can)
    have hn2 := Lib.hid (nar_wid hs1'.can)
    have hff := Lib.hid (fneg_fneg hs1'.can)
    clear hB1 hW15 hL15 hR15
    go_wp2_with ((with_reducible refine wpList_here ?_); (first | ((with_reducible refine wpList_widen Tryz.underlying28 Tryz.underlying46 (bx := ?_) (X := ?_) ?_ ?_ ?_ ?_); rotate_left 2; (first | (with_reducible exact wanted_none) | ((with_reducible refine wanted_some ?_); rfl)); (rfl); (first | assumption | ((refine Is.lit ?_); decide +kernel) | (refine Is.ofInt _ _)); (intro r nd hr); (try simp only [Act.put, List.setIfInBounds_toArray, List.set_cons_succ, List.set_cons_zero, World.drewN_drewN]))))
    refine (b10Same_any _ po lo N pc8 lc us vs (fsts ps) (snds ps) _ _ (hR16.out.bel ((Bel.refl _).drewN _)) (hL16.out.bel ((Bel.refl _).drewN _)) (by omega) hV1.out hV2.out).mono ?_
    rintro e w17 ⟨rfl, hB1⟩
    have hW17 := Lib.hid ((hW16.out.drewN _).trans hB1)
    clear hB1 hW16 hL16 hR16 hV1 hV2
    go_wp2_with fail
    refine (sSameNumber_any _ _ _ _ hxx.out hx'.out _).mono ?_
    rintro e w' ⟨rfl, rfl⟩
    rw [beq_self_eq_true]
    go_wp2_with fail
    refine (iNarrowC_any _ _ _ _ (by assumption) (by assumption) hn1.out.2 hn2.out.2 _).mono ?_
    rintro e w18 ⟨r4, s4, rfl, hr4, hs4, hD1⟩
    rw [hn1.out.1] at hr4
    rw [hn2.out.1] at hs4
    have hW18 := Lib.hid (hW17.out.dr hD1)
    clear hD1 hW17
    go_wp2_with fail
    refine (iSameC_same _ _ _ _ _ _ hr4 hs4 hr1 hs1' _).mono ?_
    rintro e w19 ⟨rfl, hD1⟩
    have hW19 := Lib.hid (hW18.out.dr hD1)
    clear hD1 hW18 hr4 hs4
    go_wp2_with fail
    refine (iConj_any _ _ _ _ hr1 hs1' _).mono ?_
    rintro e w20 ⟨r5, s5, rfl, hr5, hs5, hD1⟩
    have hW20 := Lib.hid (hW19.out.dr hD1)
    clear hD1 hW19
    go_wp2_with fail
    refine (iConj_any _ _ _ _ hr5 hs5 _).mono ?_
    rintro e w21 ⟨r6, s6, rfl, hr6, hs6, hD1⟩
    rw [hff.out] at hs6
    have hW21 := Lib.hid (hW20.out.dr hD1)
    clear hD1 hW20 hr5 hs5
    go_wp2_with fail
    refine (iSameC_same _ _ _ _ _ _ hr6 hs6 hr1 hs1' _).mono ?_
    rintro e w22 ⟨rfl, hD1⟩
    have hW22 := Lib.hid (hW21.out.dr hD1)
    clear hD1 hW21 hr6 hs6
    go_wp2_with fail
    refine (iFiniteC_any _ _ _ _ hr1 hs1' _).mono ?_
    rintro e w23 ⟨rfl, hD1⟩
    have hW23 := Lib.hid (hW22.out.dr hD1)
    clear hD1 hW22
    obtain ⟨v1, hv1⟩ : ∃ b, b = fin32B R1 := ⟨_, rfl⟩
    obtain ⟨v2, hv2⟩ : ∃ b, b = fin32B S1 := ⟨_, rfl⟩
    rw [← hv1, ← hv2]
    go_wp2_with fail
    refine (sIsFinite_any _ _ hr1 _).mono ?_
    rintro e w24 ⟨rfl, hD1⟩
    rw [← hv1]
    have hW24 := Lib.hid (hW23.out.dr hD1)
    clear hD1 hW23
    replace hv1 := Lib.hid hv1
    cases v1 with
    | false =>
      go_wp2_with fail
      go_ret
      exact ⟨rfl, hW24.out⟩
    | true =>
      go_wp2_with fail
      refine (sIsFinite_any _ _ hs1' _).mono ?_
      rintro e w25 ⟨rfl, hD1⟩
      rw [← hv2]
      have hW25 := Lib.hid (hW24.out.dr hD1)
      clear hD1 hW24
      replace hv2 := Lib.hid hv2
      cases v2
      all_goals
        go_wp2_with fail
        go_ret
        exact ⟨rfl, hW25.out⟩
  · have kb := fun w => run_cneq (P := Tryz.prog) w 24 (v := true) iC iD z0.out z0.out (by
      rw [hC0.out, hD0.out]
      by_cases hr0 : r = 0
      · rw [decide_eq_true hr0, decide_eq_false (fun e => h0 ⟨hr0, e⟩)]; rfl
      · rw [decide_eq_false hr0]; rfl)
    obtain ⟨⟨y1, y2⟩, y3, y4⟩ := hq8.out h0 vP.out vQ.out
    have y5 := Lib.hid (show feq .f32 (nar (quRe (nar (mlRe A B C D)) (nar (mlIm A B C D)) C D)) A = true by rw [y1.feq hAk.out]; exact decide_eq_true rfl)
    have y6 := Lib.hid (show feq .f32 (nar (quIm (nar (mlRe A B C D)) (nar (mlIm A B C D)) C D)) B = true by rw [y3.feq hBk.out]; exact decide_eq_true rfl)
    replace y2 := Lib.hid y2
    replace y4 := Lib.hid y4
    clear y1 y3 h0
    go_wp2_with fail
    refine (iQuotient_any _ _ _ _ _ _ _ _ hP1'.out hP2'.out iC iD y2.out y4.out _).mono ?_
    rintro e w10 ⟨Z1, Z2, rfl, hZ1, hZ2, hD1⟩
    have hW10 := Lib.hid (hW9.out.dr hD1)
    have k4 := fun w => run_cneq (P := Tryz.prog) w 24 (v := false) hZ1 hZ2 iA iB (by rw [y5.out, y6.out]; rfl)
    clear hZ1 hZ2 hD1 hW9 kb y2 y4
    go_wp2_with fail
    clear k4
    refine (iScale_any _ _ _ _ 1073741824 1073741824 iA iB (Is.lit (by decide +kernel)) _).mono ?_
    rintro e w11 ⟨U1, U2, rfl, hU1, hU2, hD1⟩
    have hW11 := Lib.hid (hW10.out.dr hD1)
    have k5 := fun w => run_cneq (P := Tryz.prog) w 24 (v := false) hU1 hU2 iA2.out iB2.out (by rw [hs1.out, hs2.out]; rfl)
    clear hU1 hU2 hD1 hW10
    go_wp2_with fail
    clear k5 haa iA iB iC iD hP1' hP2'
    refine (b10At_any w11 ao n c z (hA'.out.bel hW11.out) 0 (by omega) 9 (by omega) (by omega) hn).mono ?_
    rintro e w' ⟨N, rfl, hN, rfl⟩
    go_wp2_with fail
    refine (b10Any_any w11 bo m d y (hB'.out.bel hW11.out) hm N (by omega)).mono ?_
    rintro e w12 ⟨ps, lo, lc, rfl, hpl, hws, hO, hB1⟩
    have hL12 := Lib.hid hO.row
    have hW12 := Lib.hid (hW11.out.trans hB1)
    have hwd := Lib.hid (show ∀ i, i < N → (fsts ps).getD i 0 < 4294967296 ∧ (snds ps).getD i 0 < 4294967296 from fun i hi => hws i (by omega))
    have hrb := Lib.hid (readC_back (fsts ps) (snds ps) N (by omega) hwd.out)
    clear hO hB1 hW11 hws hpl
    go_wp2_with fail
    refine (iComplexText_any w12 lo N lc _ _ hL12.out hwd.out (by omega) (fx4_bel hF.out hW12.out).2.1).mono ?_
    rintro e w13 ⟨rfl, hB1⟩
    rw [if_pos rfl]
    have hW13 := Lib.hid (hW12.out.trans hB1)
    have hL13 := Lib.hid (hL12.out.bel hB1)
    have hF13 := Lib.hid (fx4_bel hF.out hW13.out)
    have htl := Lib.hid (show (txt (hexc (fsts ps) (snds ps)) N).length ≤ 1048576 by
      by_cases h0 : N = 0
      · subst h0; show [110, 111, 110, 101].length ≤ 1048576; decide
      · have h1 := tx_len (hexc (fsts ps) (snds ps)) 16 N (fun i hi => Nat.le_of_eq (hexc_len _ _ i)) N (Nat.le_refl _)
        have h2 : txt (hexc (fsts ps) (snds ps)) N = tx (hexc (fsts ps) (snds ps)) N := by unfold txt; rw [if_neg h0]
        rw [h2]; omega)
    obtain ⟨T, hT⟩ : ∃ T, T = txt (hexc (fsts ps) (snds ps)) N := ⟨_, rfl⟩
    rw [← hT] at htl hrb ⊢
    clear hB1 hT hW12 hL12
    go_wp2_with fail
    refine (iReadComplex_any w13 T htl.out hF13.out.1 hF13.out.2.1 hF13.out.2.2).mono ?_
    rintro e w14 ⟨us, vs, po, pc8, rfl, hO, hV, hB1⟩
    obtain ⟨q1, q2, q3⟩ := hrb.out
    rw [q2] at hO hV
    rw [q1, q2]
    have hW14 := Lib.hid (hW13.out.trans hB1)
    have hL14 := Lib.hid (hL13.out.bel hB1)
    have hR14 := Lib.hid hO.row
    have hV1 := Lib.hid hV
    have hV2 := Lib.hid (show CSet N (fsts ps) (snds ps) (reX T) (imX T) from fun j hj => by
      obtain ⟨a1, a2⟩ := q3 j hj
      obtain ⟨a3, a4⟩ := hwd.out j hj
      rw [a1, a2]
      exact ⟨is_word a3, is_word a4⟩)
    clear hB1 hO hV q1 q2 q3 hW13 hL13 hF13 hrb htl hwd
    go_wp2_with fail
    refine (b10Number_any w14 ao n c z (hA'.out.bel hW14.out) hn).mono ?_
    rintro e w15 ⟨x, X5, rfl, hx, hB1⟩
    have hW15 := Lib.hid (hW14.out.trans hB1)
    have hL15 := Lib.hid (hL14.out.bel hB1)
    have hR15 := Lib.hid (hR14.out.bel hB1)
    have hx' := Lib.hid hx
    have hX32 := is32_lt hx
    have hok : bitsOk (X5 : Int) = true := by simp [bitsOk]; omega
    have hxx := Lib.hid (show Is .f32 X5 X5 from ⟨by rw [w32]; exact hX32, hx.can.2⟩)
    clear hB1 hx hW14 hL14 hR14
    go_wp2_with fail
    refine (iBitsOf_any x X5 hx'.out _).mono ?_
    rintro e w' ⟨rfl, rfl⟩
    go_wp2_with fail
    refine (iFromBits_any (X5 : Int) _).mono ?_
    rintro e w' ⟨rfl, rfl⟩
    rw [hok, if_pos rfl, Int.toNat_natCast]
    replace hok := Lib.hid hok
    go_wp2_with fail
    refine (b10Complex_any w15 ao n c z (hA'.out.bel hW15.out) hn).mono ?_
    rintro e w16 ⟨r1, s1, R1, S1, rfl, hr1, hs1', hB1⟩
    have hW16 := Lib.hid (hW15.out.trans hB1)
    have hL16 := Lib.hid (hL15.out.bel hB1)
    have hR16 := Lib.hid (hR15.out.bel hB1)
    have hn1 := Lib.hid (nar_wid hr1.can)
    have hn2 := Lib.hid (nar_wid hs1'.can)
    have hff := Lib.hid (fneg_fneg hs1'.can)
    clear hB1 hW15 hL15 hR15
    go_wp2_with ((with_reducible refine wpList_here ?_); (first | ((with_reducible refine wpList_widen Tryz.underlying28 Tryz.underlying46 (bx := ?_) (X := ?_) ?_ ?_ ?_ ?_); rotate_left 2; (first | (with_reducible exact wanted_none) | ((with_reducible refine wanted_some ?_); rfl)); (rfl); (first | assumption | ((refine Is.lit ?_); decide +kernel) | (refine Is.ofInt _ _)); (intro r nd hr); (try simp only [Act.put, List.setIfInBounds_toArray, List.set_cons_succ, List.set_cons_zero, World.drewN_drewN]))))
    refine (b10Same_any _ po lo N pc8 lc us vs (fsts ps) (snds ps) _ _ (hR16.out.bel ((Bel.refl _).drewN _)) (hL16.out.bel ((Bel.refl _).drewN _)) (by omega) hV1.out hV2.out).mono ?_
    rintro e w17 ⟨rfl, hB1⟩
    have hW17 := Lib.hid ((hW16.out.drewN _).trans hB1)
    clear hB1 hW16 hL16 hR16 hV1 hV2
    go_wp2_with fail
    refine (sSameNumber_any _ _ _ _ hxx.out hx'.out _).mono ?_
    rintro e w' ⟨rfl, rfl⟩
    rw [beq_self_eq_true]
    go_wp2_with fail
    refine (iNarrowC_any _ _ _ _ (by assumption) (by assumption) hn1.out.2 hn2.out.2 _).mono ?_
    rintro e w18 ⟨r4, s4, rfl, hr4, hs4, hD1⟩
    rw [hn1.out.1] at hr4
    rw [hn2.out.1] at hs4
    have hW18 := Lib.hid (hW17.out.dr hD1)
    clear hD1 hW17
    go_wp2_with fail
    refine (iSameC_same _ _ _ _ _ _ hr4 hs4 hr1 hs1' _).mono ?_
    rintro e w19 ⟨rfl, hD1⟩
    have hW19 := Lib.hid (hW18.out.dr hD1)
    clear hD1 hW18 hr4 hs4
    go_wp2_with fail
    refine (iConj_any _ _ _ _ hr1 hs1' _).mono ?_
    rintro e w20 ⟨r5, s5, rfl, hr5, hs5, hD1⟩
    have hW20 := Lib.hid (hW19.out.dr hD1)
    clear hD1 hW19
    go_wp2_with fail
    refine (iConj_any _ _ _ _ hr5 hs5 _).mono ?_
    rintro e w21 ⟨r6, s6, rfl, hr6, hs6, hD1⟩
    rw [hff.out] at hs6
    have hW21 := Lib.hid (hW20.out.dr hD1)
    clear hD1 hW20 hr5 hs5
    go_wp2_with fail
    refine (iSameC_same _ _ _ _ _ _ hr6 hs6 hr1 hs1' _).mono ?_
    rintro e w22 ⟨rfl, hD1⟩
    have hW22 := Lib.hid (hW21.out.dr hD1)
    clear hD1 hW21 hr6 hs6
    go_wp2_with fail
    refine (iFiniteC_any _ _ _ _ hr1 hs1' _).mono ?_
    rintro e w23 ⟨rfl, hD1⟩
    have hW23 := Lib.hid (hW22.out.dr hD1)
    clear hD1 hW22
    obtain ⟨v1, hv1⟩ : ∃ b, b = fin32B R1 := ⟨_, rfl⟩
    obtain ⟨v2, hv2⟩ : ∃ b, b = fin32B S1 := ⟨_, rfl⟩
    rw [← hv1, ← hv2]
    go_wp2_with fail
    refine (sIsFinite_any _ _ hr1 _).mono ?_
    rintro e w24 ⟨rfl, hD1⟩
    rw [← hv1]
    have hW24 := Lib.hid (hW23.out.dr hD1)
    clear hD1 hW23
    replace hv1 := Lib.hid hv1
    cases v1 with
    | false =>
      go_wp2_with fail
      go_ret
      exact ⟨rfl, hW24.out⟩
    | true =>
      go_wp2_with fail
      refine (sIsFinite_any _ _ hs1' _).mono ?_
      rintro e w25 ⟨rfl, hD1⟩
      rw [← hv2]
      have hW25 := Lib.hid (hW24.out.dr hD1)
      clear hD1 hW24
      replace hv2 := Lib.hid hv2
      cases v2
      all_goals
        go_wp2_with fail
        go_ret
        exact ⟨rfl, hW25.out⟩
set_option maxRecDepth 100000 in
set_option maxHeartbeats 1000000 in
theorem products_long (w : World) (ao : Option Addr) (n c : Nat) (bo : Option Addr) (m d : Nat) (hn : 1048576 < n ∨ 1048576 < m) :
    Calls Tryz.prog 3 #[.slice ao n c, .slice bo m d] w (fun e w' => e = .returned (.bool true) ∧ Bel w w') := by
  go_enter Tryz.func3, Tryz.ntmps3
  go_wp2_with fail
  refine (b10Long_yes _ _ _ _ _ _ _ hn).mono ?_
  rintro e w' ⟨rfl, rfl⟩
  go_wp2_with fail
  go_ret
  exact ⟨rfl, Bel.refl _⟩
theorem walkFnProducts (w : World) (ao : Option Addr) (n c : Nat) (z : Nat → Int) (hM : n ≤ maxLen) (hA : IRow .u8 w ao n z) (bo : Option Addr) (m d : Nat) (y : Nat → Int) (hM2 : m ≤ maxLen) (hB : IRow .u8 w bo m y) (hf : Fx4 w) :
    Calls Tryz.prog 3 #[.slice ao n c, .slice bo m d] w (fun e w' => e = .returned (.bool true) ∧ Bel w w') := by
  by_cases h : n ≤ 1048576 ∧ m ≤ 1048576
  · exact products_at w ao n c z bo m d y hA hB h.1 h.2 hf
  · exact products_long w ao n c bo m d (by omega)
theorem factsFnProducts {W : World} (h : laidMet Tryz.prog Rows.fnProductsRow.laid W) (hs : W.ShapedOpen Tryz.prog) : Fx4 W :=
  ⟨⟨sent (h.tail.tail.tail.tail.tail) gES gESt, sent (h.tail.tail.tail.tail) gER gERt⟩,
    tz_of h.tail,
    Go.Proofs.cell_of_shapedOpen_int (zero := #[.int .i64 0]) (t := 3) hs (of_decide_eq_true (by kernel_rfl)) (by kernel_rfl) rfl (by kernel_rfl) (by kernel_rfl) Tryz.underlying3⟩
end Go.Proofs.YtianaalokclklaaGreatDoor
end

/-
  THE WRAP OF A ROW THAT LISTS VARIABLES, the world's shape kept. (No program here.)
-/
section
namespace Go
variable {H : Type} {enc : TypeId × Value → H}

theorem change_and_shaped {a : Assume} {C : Checked} {os : Os} {f : FuncId} {fn : Func} {s : ChangeSpec} {conds : List PathCond} {apart fresh handsOn again : Bool} {X : World → Array Value → Prop}
    (hX : ∀ (w w' : World) (args : Array Value), w.heap = w'.heap → X w args → X w' args)
    (own : ownKnob C.prog.godebug = none) (started : os.Started) (noInit : C.prog.inits.idxOf? f = none) (hfn : C.prog.funcs[f]? = some fn)
    (witness : ∃ (w : World) (tape : Tape) (i : Input), w.os = os ∧ (w.forCall tape i).Shaped C.prog ∧ i.vars = [] ∧ Input.okWide C.prog (w.forCall tape i) .any w.heap.size f i ∧
      ((s.pre enc C.prog fn conds apart (w.forCall tape i).memory i.args ∧ X (w.forCall tape i).memory i.args) ∧ sizedMet enc C.prog fn (OpenSpec.ofChange s) apart (w.forCall tape i).memory i.args) ∧ a.holds C.prog (lone (Frame.enter C.prog f i.args .normal) [] (w.forCall tape i)))
    (contract : ∀ (W : World) (base : Nat) (args : Array Value) (ds gs : List (DataW H)) (before : List MemPlace),
      (∀ (j : Nat) t v, fn.params[j]? = some t → args[j]? = some v → Value.okWide C.prog W .any base t v) →
      DataW.Whole enc C.prog fn.params.toList s.vars apart W args.toList ds gs before →
      conds.all (PathCond.test C.prog ⟨fn.params.toList, ds, s.plain.varTypes C.prog, gs⟩) = true →
      (DataW.weightsEach C.prog (fn.params.toList ++ s.plain.varTypes C.prog) (ds ++ gs)).all (· ≤ reachBytes) = true → X W args → W.ShapedOpen C.prog →
      a.holds C.prog (lone (Frame.enter C.prog f args .normal) [] W) →
      Calls C.prog f args W fun e W' => ∃ v, e = .returned v ∧ s.post enc C.prog fn apart fresh handsOn again W args v W') :
    ReturnsInHanded a C os f .any (fun w args => (s.pre enc C.prog fn conds apart w args ∧ X w args) ∧ sizedMet enc C.prog fn (OpenSpec.ofChange s) apart w args) (s.post enc C.prog fn apart fresh handsOn again) := by
  refine returnsInHanded_of_calls own started noInit witness ?_
  intro w tape i _ hsh _ hok hpre hholds
  obtain ⟨_, _, _, fn', hfn', _, _, _, _, hval⟩ := hok
  have e : fn' = fn := Option.some.inj (hfn'.symm.trans hfn)
  subst e
  obtain ⟨⟨⟨ds, gs, before, hw, hc⟩, hx⟩, hz⟩ := hpre
  have hw' := DataW.Whole.of_heap (w' := w.forCall tape i) (by rfl) hw
  refine (contract (w.forCall tape i) w.heap.size i.args ds gs before hval hw' hc (hz.weights hw) (hX _ _ _ (by rfl) hx) hsh hholds).mono fun e W' ⟨v, he, hp⟩ => ?_
  subst he
  exact ChangeSpec.post_blind hp
end Go
end
