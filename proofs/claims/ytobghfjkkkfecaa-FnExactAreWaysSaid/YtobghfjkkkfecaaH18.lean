/-
  CONTRACTS: what is seen over what, the reference's.
-/
import Derived.Test.YtobghfjkkkfecaaH17
import Derived.Test.YtobghfjkkkfecaaH11
import Derived.Test.YtobghfjkkkfecaaN3
import Derived.Test.YtobghfjkkkfecaaHp
set_option linter.unusedSimpArgs false
set_option linter.unusedVariables false
namespace Go.Proofs.Ytobghfjkkkfecaa
open Go.RowKit Go.Fl

theorem cell_nat {W H : Int} {n : Nat} {xs : List Nat} {i : Int} (h : cellB W H n xs i = true) : ∃ a b i' : Nat, W = (a : Int) ∧ H = (b : Int) ∧ 1 ≤ a ∧ a ≤ 16 ∧ 1 ≤ b ∧ b ≤ 16 ∧ n = b * a ∧ i = (i' : Int) ∧ i' < b * a := by
  unfold cellB inB at h
  simp only [Bool.and_eq_true, decide_eq_true_eq] at h
  obtain ⟨hv, h1, h2⟩ := h
  obtain ⟨a, b, rfl, rfl, g1, g2, g3, g4, g5, _⟩ := valid_nat hv
  obtain ⟨i', rfl⟩ := Int.eq_ofNat_of_zero_le h1
  refine ⟨a, b, i', rfl, rfl, g1, g2, g3, g4, g5, rfl, ?_⟩
  have e2 : (((b * a : Nat) : Int) = (a : Int) * (b : Int)) := by rw [Int.natCast_mul, Int.mul_comm]
  omega
theorem line_in {a b i k n : Nat} (ha : 1 ≤ a) (hi : i < b * a) (hk : k < b * a) (hn : n < (lineOf a i k).2) : ∃ m : Nat, (i : Int) + (n : Int) * (lineOf a i k).1 = (m : Int) ∧ m < b * a := by
  unfold lineOf at *
  split at hn
  · simp at hn
  rename_i h1
  rw [if_neg h1]
  split at hn
  · rename_i h2
    rw [if_pos h2]
    split at hn
    · rename_i h3
      rw [if_pos h3]
      exact ⟨i + n, by simp, by simp at hn; omega⟩
    · rename_i h3
      rw [if_neg h3]
      simp at hn
      exact ⟨i - n, by simp; omega, by omega⟩
  · rename_i h2
    rw [if_neg h2]
    split at hn
    · rename_i h4
      rw [if_pos h4]
      split at hn
      · rename_i h3
        rw [if_pos h3]
        simp only at hn
        have h5 : (n + 1) * a ≤ k - i := (Nat.le_div_iff_mul_le (by omega)).1 hn
        rw [Nat.add_mul, Nat.one_mul] at h5
        exact ⟨i + n * a, by simp, by omega⟩
      · rename_i h3
        rw [if_neg h3]
        simp only at hn
        have h5 : (n + 1) * a ≤ i - k := (Nat.le_div_iff_mul_le (by omega)).1 hn
        rw [Nat.add_mul, Nat.one_mul] at h5
        refine ⟨i - n * a, ?_, by omega⟩
        have e : ((i - n * a : Nat) : Int) = (i : Int) - ((n * a : Nat) : Int) := by omega
        rw [e, Int.natCast_mul, Int.mul_neg]; omega
    · simp at hn
theorem line_le {a i k : Nat} (ha : 1 ≤ a) (ha2 : a ≤ 16) (hi : i ≤ 255) (hk : k ≤ 255) : (lineOf a i k).2 ≤ 255 ∧ -16 ≤ (lineOf a i k).1 ∧ (lineOf a i k).1 ≤ 16 := by
  unfold lineOf
  have h1 : (k - i) / a ≤ k - i := Nat.div_le_self _ _
  have h2 : (i - k) / a ≤ i - k := Nat.div_le_self _ _
  repeat' split
  all_goals (refine ⟨?_, ?_, ?_⟩ <;> simp <;> omega)
theorem prod_in {n : Nat} {s : Int} (hn : n ≤ 255) (h1 : -16 ≤ s) (h2 : s ≤ 16) : -4080 ≤ (n : Int) * s ∧ (n : Int) * s ≤ 4080 := by
  have g1 : (n : Int) * s ≤ n * 16 := Int.mul_le_mul_of_nonneg_left h2 (by omega)
  have g2 : (n : Int) * (-16) ≤ n * s := Int.mul_le_mul_of_nonneg_left h1 (by omega)
  omega
def seesE (xs : List Nat) (i EYE : Nat) : Nat := fop .add .f32 (cn .f32 (xs.getD i 0)) EYE
def seesL (xs : List Nat) (i k fa EYE n : Nat) : Nat := fop .add .f32 (seesE xs i EYE) (fop .mul .f32 (fop .quo .f32 (floatOfInt .f32 (n : Int)) (floatOfInt .f32 (fa : Int))) (fop .sub .f32 (cn .f32 (xs.getD k 0)) (seesE xs i EYE)))
def seesC (a i k n : Nat) : Nat := ((i : Int) + (n : Int) * (lineOf a i k).1).toNat
def seesFin (xs : List Nat) (a i k EYE n : Nat) : Bool := allB (fun j => fin32B (seesL xs i k (lineOf a i k).2 EYE (j + 1))) n
def seesAll (xs : List Nat) (a i k EYE n : Nat) : Bool := allB (fun j => !fgt .f32 (cn .f32 (xs.getD (seesC a i k (j + 1)) 0)) (seesL xs i k (lineOf a i k).2 EYE (j + 1))) n
def seesG (xs : List Nat) (a i k EYE : Nat) : Bool × Bool := if 0 < (lineOf a i k).2 then (if fin32B (seesE xs i EYE) && seesFin xs a i k EYE ((lineOf a i k).2 - 1) then (seesAll xs a i k EYE ((lineOf a i k).2 - 1), true) else (false, false)) else (false, false)
def seesR (W H : Int) (n : Nat) (xs : List Nat) (i k : Int) (EYE : Nat) : Bool × Bool := if cellB W H n xs i && (cellB W H n xs k && fin32B EYE) then seesG xs W.toNat i.toNat k.toNat EYE else (false, false)
def PRet (r : Bool × Bool) (w : World) (e : Ending) (w' : World) : Prop := e = .returned (.tuple #[.bool r.1, .bool r.2]) ∧ Bel w w'

set_option maxRecDepth 100000 in
set_option maxHeartbeats 4000000 in
theorem sSeesOver_any (w : World) (W H : Int) (ao : Option Addr) (n c : Nat) (xs : List Nat) (i k : Int) (x4 EYE : Nat) (hE : Is .f32 x4 EYE) (hA : FRow w ao n xs) (hm : n ≤ 1048576) :
    Calls Try.prog 35 #[hillV W H ao n c, .int .i64 i, .int .i64 k, .float .f32 x4] w (PRet (seesR W H n xs i k EYE) w) := by
  have hA' := Lib.hid (hA.alloc (.cells #[.int .i64 W, .int .i64 H, .slice ao n c] 27))
  have hX := Lib.hid (hbox_new w W H (.slice ao n c) 27)
  have hW := Lib.hid ((Bel.refl w).alloc (.cells #[.int .i64 W, .int .i64 H, .slice ao n c] 27))
  have hat := Lib.hid hA.at0
  clear hA
  cases hci : cellB W H n xs i with
  | false =>
    have hR := Lib.hid (show seesR W H n xs i k EYE = (false, false) by unfold seesR; rw [hci]; rfl)
    replace hci := Lib.hid hci
    go_enter Try.func35, Try.ntmps35
    go_wp2_with fail
    refine (l02Has_any _ _ W H _ _ _ xs i hX.out hA'.out hm).mono ?_
    rintro e w1 ⟨rfl, hB⟩
    rw [hci.out]
    replace hW := Lib.hid (hW.out.trans hB)
    clear hB
    go_wp2_with fail
    refine bodyPost_ret (v := .tuple #[.bool false, .bool false]) (by simp [results, Try.results35, go_sem]) rfl ⟨?_, hW.out⟩
    rw [hR.out]
  | true =>
    obtain ⟨a, b, i', rfl, rfl, ha1, ha2, hb1, hb2, rfl, rfl, hil⟩ := cell_nat hci
    cases hck : cellB a b (b * a) xs k with
    | false =>
      have hR := Lib.hid (show seesR a b (b * a) xs i' k EYE = (false, false) by unfold seesR; rw [hci, hck]; rfl)
      replace hci := Lib.hid hci
      replace hck := Lib.hid hck
      go_enter Try.func35, Try.ntmps35
      go_wp2_with fail
      refine (l02Has_any _ _ a b _ _ _ xs i' hX.out hA'.out hm).mono ?_
      rintro e w1 ⟨rfl, hB⟩
      rw [hci.out]
      replace hW := Lib.hid (hW.out.trans hB)
      replace hX := Lib.hid (hX.out.bel hB)
      replace hA' := Lib.hid (hA'.out.bel hB)
      clear hB
      go_wp2_with fail
      refine (l02Has_any _ _ a b _ _ _ xs k hX.out hA'.out hm).mono ?_
      rintro e w2 ⟨rfl, hB⟩
      rw [hck.out]
      replace hW := Lib.hid (hW.out.trans hB)
      clear hB
      go_wp2_with fail
      refine bodyPost_ret (v := .tuple #[.bool false, .bool false]) (by simp [results, Try.results35, go_sem]) rfl ⟨?_, hW.out⟩
      rw [hR.out]
    | true =>
      obtain ⟨a2, b2, k', e1, e2, q1, q2, q3, q4, e3, rfl, hkl⟩ := cell_nat hck
      have hkl' : k' < b * a := by rw [e3]; exact hkl
      clear hkl e1 e2 e3 q1 q2 q3 q4
      clear a2 b2
      have h256 : b * a ≤ 256 := Nat.mul_le_mul hb2 ha2
      have hpos : 0 < b * a := by omega
      obtain ⟨bo, off, rfl, _⟩ := hat.out hpos
      have hline := Lib.hid (l02Line_any)
      have hll := line_le (a := a) (i := i') (k := k') ha1 ha2 (by omega) (by omega)
      obtain ⟨hl1, hl2, hl3⟩ := hll
      have hR0 := Lib.hid (show seesR a b (b * a) xs i' k' EYE = if fin32B EYE then seesG xs a i' k' EYE else (false, false) by unfold seesR; rw [hci, hck]; simp)
      replace hci := Lib.hid hci
      replace hck := Lib.hid hck
      go_enter Try.func35, Try.ntmps35
      go_wp2_with fail
      refine (l02Has_any _ _ a b _ _ _ xs i' hX.out hA'.out hm).mono ?_
      rintro e w1 ⟨rfl, hB⟩
      rw [hci.out]
      replace hW := Lib.hid (hW.out.trans hB)
      replace hX := Lib.hid (hX.out.bel hB)
      replace hA' := Lib.hid (hA'.out.bel hB)
      clear hB
      go_wp2_with fail
      refine (l02Has_any _ _ a b _ _ _ xs k' hX.out hA'.out hm).mono ?_
      rintro e w2 ⟨rfl, hB⟩
      rw [hck.out]
      replace hW := Lib.hid (hW.out.trans hB)
      replace hX := Lib.hid (hX.out.bel hB)
      replace hA' := Lib.hid (hA'.out.bel hB)
      clear hB
      go_wp2_with fail
      refine (l01Finite_any x4 EYE hE _).mono ?_
      rintro e w3 ⟨rfl, hD⟩
      have hB := dr_bel hD
      replace hW := Lib.hid (hW.out.trans hB)
      replace hX := Lib.hid (hX.out.bel hB)
      replace hA' := Lib.hid (hA'.out.bel hB)
      clear hB hD
      cases hfe : fin32B EYE with
      | false =>
        have hR := Lib.hid (show seesR a b (b * a) xs i' k' EYE = (false, false) by rw [hR0.out, hfe]; rfl)
        clear hfe
        go_wp2_with fail
        refine bodyPost_ret (v := .tuple #[.bool false, .bool false]) (by simp [results, Try.results35, go_sem]) rfl ⟨?_, hW.out⟩
        rw [hR.out]
      | true =>
        have hR1 := Lib.hid (show seesR a b (b * a) xs i' k' EYE = seesG xs a i' k' EYE by rw [hR0.out, hfe]; rfl)
        clear hfe
        go_wp2_with fail
        refine (l02Line_any w3 _ a b _ i' k' ha1 ha2 (by omega) (by omega) hX.out).mono ?_
        rintro e w4 ⟨rfl, hB⟩
        replace hW := Lib.hid (hW.out.trans hB)
        replace hX := Lib.hid (hX.out.bel hB)
        replace hA' := Lib.hid (hA'.out.bel hB)
        clear hB
        have hin := Lib.hid (fun n (hn : n < (lineOf a i' k').2) => line_in ha1 hil hkl' hn)
        obtain ⟨st, hst⟩ : ∃ s, s = (lineOf a i' k').1 := ⟨_, rfl⟩
        obtain ⟨fa, hfa⟩ : ∃ f, f = (lineOf a i' k').2 := ⟨_, rfl⟩
        rw [← hst, ← hfa]
        rw [← hst] at hl2 hl3 hin
        rw [← hfa] at hl1 hin
        replace hst := Lib.hid hst
        replace hfa := Lib.hid hfa
        by_cases h0 : 0 < fa
        · have hd : decide (0 < fa) = true := decide_eq_true h0
          have hR := Lib.hid (show seesR a b (b * a) xs i' k' EYE = if fin32B (seesE xs i' EYE) && seesFin xs a i' k' EYE (fa - 1) then (seesAll xs a i' k' EYE (fa - 1), true) else (false, false) by rw [hR1.out]; unfold seesG; rw [← hfa.out, if_pos h0])
          obtain ⟨_, x0, x1, x2⟩ := hX.out
          have ci := frow_cell hA'.out (Bel.refl _) hil
          have ck := frow_cell hA'.out (Bel.refl _) hkl'
          have hxi := hA'.out.is hil
          have hxk := hA'.out.is hkl'
          have ii : (i' : Int) < (b : Int) * (a : Int) := by rw [← Int.natCast_mul]; omega
          have ik : (k' : Int) < (b : Int) * (a : Int) := by rw [← Int.natCast_mul]; omega
          obtain ⟨Xi, hXi⟩ : ∃ X, X = xs.getD i' 0 := ⟨_, rfl⟩
          obtain ⟨Xk, hXk⟩ : ∃ X, X = xs.getD k' 0 := ⟨_, rfl⟩
          have hEe := Lib.hid (show seesE xs i' EYE = fop .add .f32 (cn .f32 Xi) EYE by unfold seesE; rw [hXi])
          have hLl := Lib.hid (fun n => show seesL xs i' k' fa EYE n = fop .add .f32 (fop .add .f32 (cn .f32 Xi) EYE) (fop .mul .f32 (fop .quo .f32 (floatOfInt .f32 (n : Int)) (floatOfInt .f32 (fa : Int))) (fop .sub .f32 (cn .f32 Xk) (fop .add .f32 (cn .f32 Xi) EYE))) by unfold seesL seesE; rw [hXi, hXk])
          rw [← hXi] at ci hxi
          rw [← hXk] at ck hxk
          have ck' := Lib.hid ck
          clear hXi hXk
          go_wp2_with ((with_reducible refine wpList_here ?_); (first | ((with_reducible refine wpList_feq (k := ?_) (bx := ?_) (by' := ?_) (X := ?_) (Y := ?_) ?_ ?_ ?_ ?_ ?_ ?_); rotate_left 5; (first | (with_reducible exact wanted_none) | ((with_reducible refine wanted_some ?_); rfl)); (rfl); (rfl); (first | assumption | ((refine Is.lit ?_); decide +kernel) | (refine Is.ofInt _ _)); (first | assumption | ((refine Is.lit ?_); decide +kernel) | (refine Is.ofInt _ _)); (try simp only [Act.put, List.setIfInBounds_toArray, List.set_cons_succ, List.set_cons_zero, World.drewN_drewN])) | ((with_reducible refine wpList_fne (k := ?_) (bx := ?_) (by' := ?_) (X := ?_) (Y := ?_) ?_ ?_ ?_ ?_ ?_ ?_); rotate_left 5; (first | (with_reducible exact wanted_none) | ((with_reducible refine wanted_some ?_); rfl)); (rfl); (rfl); (first | assumption | ((refine Is.lit ?_); decide +kernel) | (refine Is.ofInt _ _)); (first | assumption | ((refine Is.lit ?_); decide +kernel) | (refine Is.ofInt _ _)); (try simp only [Act.put, List.setIfInBounds_toArray, List.set_cons_succ, List.set_cons_zero, World.drewN_drewN])) | ((with_reducible refine wpList_flt (k := ?_) (bx := ?_) (by' := ?_) (X := ?_) (Y := ?_) ?_ ?_ ?_ ?_ ?_ ?_); rotate_left 5; (first | (with_reducible exact wanted_none) | ((with_reducible refine wanted_some ?_); rfl)); (rfl); (rfl); (first | assumption | ((refine Is.lit ?_); decide +kernel) | (refine Is.ofInt _ _)); (first | assumption | ((refine Is.lit ?_); decide +kernel) | (refine Is.ofInt _ _)); (try simp only [Act.put, List.setIfInBounds_toArray, List.set_cons_succ, List.set_cons_zero, World.drewN_drewN])) | ((with_reducible refine wpList_fle (k := ?_) (bx := ?_) (by' := ?_) (X := ?_) (Y := ?_) ?_ ?_ ?_ ?_ ?_ ?_); rotate_left 5; (first | (with_reducible exact wanted_none) | ((with_reducible refine wanted_some ?_); rfl)); (rfl); (rfl); (first | assumption | ((refine Is.lit ?_); decide +kernel) | (refine Is.ofInt _ _)); (first | assumption | ((refine Is.lit ?_); decide +kernel) | (refine Is.ofInt _ _)); (try simp only [Act.put, List.setIfInBounds_toArray, List.set_cons_succ, List.set_cons_zero, World.drewN_drewN])) | ((with_reducible refine wpList_fgt (k := ?_) (bx := ?_) (by' := ?_) (X := ?_) (Y := ?_) ?_ ?_ ?_ ?_ ?_ ?_); rotate_left 5; (first | (with_reducible exact wanted_none) | ((with_reducible refine wanted_some ?_); rfl)); (rfl); (rfl); (first | assumption | ((refine Is.lit ?_); decide +kernel) | (refine Is.ofInt _ _)); (first | assumption | ((refine Is.lit ?_); decide +kernel) | (refine Is.ofInt _ _)); (try simp only [Act.put, List.setIfInBounds_toArray, List.set_cons_succ, List.set_cons_zero, World.drewN_drewN])) | ((with_reducible refine wpList_fge (k := ?_) (bx := ?_) (by' := ?_) (X := ?_) (Y := ?_) ?_ ?_ ?_ ?_ ?_ ?_); rotate_left 5; (first | (with_reducible exact wanted_none) | ((with_reducible refine wanted_some ?_); rfl)); (rfl); (rfl); (first | assumption | ((refine Is.lit ?_); decide +kernel) | (refine Is.ofInt _ _)); (first | assumption | ((refine Is.lit ?_); decide +kernel) | (refine Is.ofInt _ _)); (try simp only [Act.put, List.setIfInBounds_toArray, List.set_cons_succ, List.set_cons_zero, World.drewN_drewN])) | ((with_reducible refine wpList_fadd (k := ?_) (bx := ?_) (by' := ?_) (X := ?_) (Y := ?_) ?_ ?_ ?_ ?_ ?_ ?_); rotate_left 5; (first | (with_reducible exact wanted_none) | ((with_reducible refine wanted_some ?_); rfl)); (rfl); (rfl); (first | assumption | ((refine Is.lit ?_); decide +kernel) | (refine Is.ofInt _ _)); (first | assumption | ((refine Is.lit ?_); decide +kernel) | (refine Is.ofInt _ _)); (intro r nd hr); (try simp only [Act.put, List.setIfInBounds_toArray, List.set_cons_succ, List.set_cons_zero, World.drewN_drewN])) | ((with_reducible refine wpList_fsub (k := ?_) (bx := ?_) (by' := ?_) (X := ?_) (Y := ?_) ?_ ?_ ?_ ?_ ?_ ?_); rotate_left 5; (first | (with_reducible exact wanted_none) | ((with_reducible refine wanted_some ?_); rfl)); (rfl); (rfl); (first | assumption | ((refine Is.lit ?_); decide +kernel) | (refine Is.ofInt _ _)); (first | assumption | ((refine Is.lit ?_); decide +kernel) | (refine Is.ofInt _ _)); (intro r nd hr); (try simp only [Act.put, List.setIfInBounds_toArray, List.set_cons_succ, List.set_cons_zero, World.drewN_drewN])) | ((with_reducible refine wpList_fmul (k := ?_) (bx := ?_) (by' := ?_) (X := ?_) (Y := ?_) ?_ ?_ ?_ ?_ ?_ ?_); rotate_left 5; (first | (with_reducible exact wanted_none) | ((with_reducible refine wanted_some ?_); rfl)); (rfl); (rfl); (first | assumption | ((refine Is.lit ?_); decide +kernel) | (refine Is.ofInt _ _)); (first | assumption | ((refine Is.lit ?_); decide +kernel) | (refine Is.ofInt _ _)); (intro r nd hr); (try simp only [Act.put, List.setIfInBounds_toArray, List.set_cons_succ, List.set_cons_zero, World.drewN_drewN])) | ((with_reducible refine wpList_fquo (k := ?_) (bx := ?_) (by' := ?_) (X := ?_) (Y := ?_) ?_ ?_ ?_ ?_ ?_ ?_); rotate_left 5; (first | (with_reducible exact wanted_none) | ((with_reducible refine wanted_some ?_); rfl)); (rfl); (rfl); (first | assumption | ((refine Is.lit ?_); decide +kernel) | (refine Is.ofInt _ _)); (first | assumption | ((refine Is.lit ?_); decide +kernel) | (refine Is.ofInt _ _)); (intro r nd hr); (try simp only [Act.put, List.setIfInBounds_toArray, List.set_cons_succ, List.set_cons_zero, World.drewN_drewN]))))
          have hre := hr
          go_loopw [14, 15] (fun q t wr => ∃ N : Nat, 1 ≤ N ∧ N ≤ fa ∧ t = .int .i64 (N : Int) ∧ q = .bool (seesAll xs a i' k' EYE (N - 1)) ∧ Hid (seesFin xs a i' k' EYE (N - 1) = true) ∧ Hid (Bel w4 wr)) (fun _ t _ => fa - (intOf t).toNat)
          case atStart => exact ⟨1, by omega, by omega, rfl, rfl, Lib.hid rfl, Lib.hid (by ((repeat (first | exact Bel.refl _ | assumption | (with_reducible refine Bel.drewN ?_ _) | (refine Bel.trans (b := ?_) ?_ ?_; rotate_left 2; assumption))); (first | done | fail)))⟩
          case round =>
            obtain ⟨N, hN1, hN2, rfl, rfl, hfin, hbw⟩ := hrel
            obtain ⟨_, k0, k1, k2⟩ := HBox.bel hX.out hbw.out
            have ck2 := (hbw.out.cell (p := ⟨bo, off + k', none⟩) (lt_of_cell (w := w4) ck'.out)).trans ck'.out
            by_cases hlt : N < fa
            · obtain ⟨m, hm1, hm2⟩ := hin.out N hlt
              obtain ⟨pr1, pr2⟩ := prod_in (n := N) (s := st) (by omega) hl2 hl3
              have cm := frow_cell hA'.out hbw.out hm2
              have hxm := hA'.out.is hm2
              have im : (m : Int) < (b : Int) * (a : Int) := by rw [← Int.natCast_mul]; omega
              have hmc := Lib.hid (show seesC a i' k' N = m by unfold seesC; rw [← hst.out, hm1]; rfl)
              obtain ⟨Xm, hXm⟩ : ∃ X, X = xs.getD m 0 := ⟨_, rfl⟩
              have hst1 := Lib.hid (show seesAll xs a i' k' EYE N = (seesAll xs a i' k' EYE (N - 1) && !fgt .f32 (cn .f32 Xm) (fop .add .f32 (fop .add .f32 (cn .f32 Xi) EYE) (fop .mul .f32 (fop .quo .f32 (floatOfInt .f32 (N : Int)) (floatOfInt .f32 (fa : Int))) (fop .sub .f32 (cn .f32 Xk) (fop .add .f32 (cn .f32 Xi) EYE))))) by
                obtain ⟨N', rfl⟩ : ∃ N', N = N' + 1 := ⟨N - 1, by omega⟩
                unfold seesAll
                rw [allB, hmc.out, ← hfa.out, hLl.out, hXm]; rfl)
              have hst2 := Lib.hid (show seesFin xs a i' k' EYE N = (seesFin xs a i' k' EYE (N - 1) && fin32B (fop .add .f32 (fop .add .f32 (cn .f32 Xi) EYE) (fop .mul .f32 (fop .quo .f32 (floatOfInt .f32 (N : Int)) (floatOfInt .f32 (fa : Int))) (fop .sub .f32 (cn .f32 Xk) (fop .add .f32 (cn .f32 Xi) EYE))))) by
                obtain ⟨N', rfl⟩ : ∃ N', N = N' + 1 := ⟨N - 1, by omega⟩
                unfold seesFin
                rw [allB, ← hfa.out, hLl.out]; rfl)
              rw [← hXm] at cm hxm
              clear hXm
              cases hq : fin32B (fop .add .f32 (fop .add .f32 (cn .f32 Xi) EYE) (fop .mul .f32 (fop .quo .f32 (floatOfInt .f32 (N : Int)) (floatOfInt .f32 (fa : Int))) (fop .sub .f32 (cn .f32 Xk) (fop .add .f32 (cn .f32 Xi) EYE)))) with
              | false =>
                have hno := Lib.hid (show seesFin xs a i' k' EYE (fa - 1) = false by
                  unfold seesFin
                  refine allB_no (k := N - 1) (by omega) ?_
                  rw [show N - 1 + 1 = N by omega, ← hfa.out, hLl.out]; exact hq)
                go_wp2_with (first | (go_at_call 57; refine (l01Finite_any _ _ (by assumption) _).mono ?_; rintro e w' ⟨rfl, nd, rfl⟩; simp only [hq]) | ((with_reducible refine wpList_here ?_); (first | ((with_reducible refine wpList_feq (k := ?_) (bx := ?_) (by' := ?_) (X := ?_) (Y := ?_) ?_ ?_ ?_ ?_ ?_ ?_); rotate_left 5; (first | (with_reducible exact wanted_none) | ((with_reducible refine wanted_some ?_); rfl)); (rfl); (rfl); (first | assumption | ((refine Is.lit ?_); decide +kernel) | (refine Is.ofInt _ _)); (first | assumption | ((refine Is.lit ?_); decide +kernel) | (refine Is.ofInt _ _)); (try simp only [Act.put, List.setIfInBounds_toArray, List.set_cons_succ, List.set_cons_zero, World.drewN_drewN])) | ((with_reducible refine wpList_fne (k := ?_) (bx := ?_) (by' := ?_) (X := ?_) (Y := ?_) ?_ ?_ ?_ ?_ ?_ ?_); rotate_left 5; (first | (with_reducible exact wanted_none) | ((with_reducible refine wanted_some ?_); rfl)); (rfl); (rfl); (first | assumption | ((refine Is.lit ?_); decide +kernel) | (refine Is.ofInt _ _)); (first | assumption | ((refine Is.lit ?_); decide +kernel) | (refine Is.ofInt _ _)); (try simp only [Act.put, List.setIfInBounds_toArray, List.set_cons_succ, List.set_cons_zero, World.drewN_drewN])) | ((with_reducible refine wpList_flt (k := ?_) (bx := ?_) (by' := ?_) (X := ?_) (Y := ?_) ?_ ?_ ?_ ?_ ?_ ?_); rotate_left 5; (first | (with_reducible exact wanted_none) | ((with_reducible refine wanted_some ?_); rfl)); (rfl); (rfl); (first | assumption | ((refine Is.lit ?_); decide +kernel) | (refine Is.ofInt _ _)); (first | assumption | ((refine Is.lit ?_); decide +kernel) | (refine Is.ofInt _ _)); (try simp only [Act.put, List.setIfInBounds_toArray, List.set_cons_succ, List.set_cons_zero, World.drewN_drewN])) | ((with_reducible refine wpList_fle (k := ?_) (bx := ?_) (by' := ?_) (X := ?_) (Y := ?_) ?_ ?_ ?_ ?_ ?_ ?_); rotate_left 5; (first | (with_reducible exact wanted_none) | ((with_reducible refine wanted_some ?_); rfl)); (rfl); (rfl); (first | assumption | ((refine Is.lit ?_); decide +kernel) | (refine Is.ofInt _ _)); (first | assumption | ((refine Is.lit ?_); decide +kernel) | (refine Is.ofInt _ _)); (try simp only [Act.put, List.setIfInBounds_toArray, List.set_cons_succ, List.set_cons_zero, World.drewN_drewN])) | ((with_reducible refine wpList_fgt (k := ?_) (bx := ?_) (by' := ?_) (X := ?_) (Y := ?_) ?_ ?_ ?_ ?_ ?_ ?_); rotate_left 5; (first | (with_reducible exact wanted_none) | ((with_reducible refine wanted_some ?_); rfl)); (rfl); (rfl); (first | assumption | ((refine Is.lit ?_); decide +kernel) | (refine Is.ofInt _ _)); (first | assumption | ((refine Is.lit ?_); decide +kernel) | (refine Is.ofInt _ _)); (try simp only [Act.put, List.setIfInBounds_toArray, List.set_cons_succ, List.set_cons_zero, World.drewN_drewN])) | ((with_reducible refine wpList_fge (k := ?_) (bx := ?_) (by' := ?_) (X := ?_) (Y := ?_) ?_ ?_ ?_ ?_ ?_ ?_); rotate_left 5; (first | (with_reducible exact wanted_none) | ((with_reducible refine wanted_some ?_); rfl)); (rfl); (rfl); (first | assumption | ((refine Is.lit ?_); decide +kernel) | (refine Is.ofInt _ _)); (first | assumption | ((refine Is.lit ?_); decide +kernel) | (refine Is.ofInt _ _)); (try simp only [Act.put, List.setIfInBounds_toArray, List.set_cons_succ, List.set_cons_zero, World.drewN_drewN])) | ((with_reducible refine wpList_fadd (k := ?_) (bx := ?_) (by' := ?_) (X := ?_) (Y := ?_) ?_ ?_ ?_ ?_ ?_ ?_); rotate_left 5; (first | (with_reducible exact wanted_none) | ((with_reducible refine wanted_some ?_); rfl)); (rfl); (rfl); (first | assumption | ((refine Is.lit ?_); decide +kernel) | (refine Is.ofInt _ _)); (first | assumption | ((refine Is.lit ?_); decide +kernel) | (refine Is.ofInt _ _)); (intro r nd hr); (try simp only [Act.put, List.setIfInBounds_toArray, List.set_cons_succ, List.set_cons_zero, World.drewN_drewN])) | ((with_reducible refine wpList_fsub (k := ?_) (bx := ?_) (by' := ?_) (X := ?_) (Y := ?_) ?_ ?_ ?_ ?_ ?_ ?_); rotate_left 5; (first | (with_reducible exact wanted_none) | ((with_reducible refine wanted_some ?_); rfl)); (rfl); (rfl); (first | assumption | ((refine Is.lit ?_); decide +kernel) | (refine Is.ofInt _ _)); (first | assumption | ((refine Is.lit ?_); decide +kernel) | (refine Is.ofInt _ _)); (intro r nd hr); (try simp only [Act.put, List.setIfInBounds_toArray, List.set_cons_succ, List.set_cons_zero, World.drewN_drewN])) | ((with_reducible refine wpList_fmul (k := ?_) (bx := ?_) (by' := ?_) (X := ?_) (Y := ?_) ?_ ?_ ?_ ?_ ?_ ?_); rotate_left 5; (first | (with_reducible exact wanted_none) | ((with_reducible refine wanted_some ?_); rfl)); (rfl); (rfl); (first | assumption | ((refine Is.lit ?_); decide +kernel) | (refine Is.ofInt _ _)); (first | assumption | ((refine Is.lit ?_); decide +kernel) | (refine Is.ofInt _ _)); (intro r nd hr); (try simp only [Act.put, List.setIfInBounds_toArray, List.set_cons_succ, List.set_cons_zero, World.drewN_drewN])) | ((with_reducible refine wpList_fquo (k := ?_) (bx := ?_) (by' := ?_) (X := ?_) (Y := ?_) ?_ ?_ ?_ ?_ ?_ ?_); rotate_left 5; (first | (with_reducible exact wanted_none) | ((with_reducible refine wanted_some ?_); rfl)); (rfl); (rfl); (first | assumption | ((refine Is.lit ?_); decide +kernel) | (refine Is.ofInt _ _)); (first | assumption | ((refine Is.lit ?_); decide +kernel) | (refine Is.ofInt _ _)); (intro r nd hr); (try simp only [Act.put, List.setIfInBounds_toArray, List.set_cons_succ, List.set_cons_zero, World.drewN_drewN])))))
                refine bodyPost_ret (v := .tuple #[.bool false, .bool false]) (by simp [results, Try.results35, go_sem]) rfl ⟨?_, (hW.out.trans hbw.out).trans (by ((repeat (first | exact Bel.refl _ | assumption | (with_reducible refine Bel.drewN ?_ _) | (refine Bel.trans (b := ?_) ?_ ?_; rotate_left 2; assumption))); (first | done | fail)))⟩
                rw [hR.out, hno.out, Bool.and_false]; rfl
              | true =>
                cases hg : fgt .f32 (cn .f32 Xm) (fop .add .f32 (fop .add .f32 (cn .f32 Xi) EYE) (fop .mul .f32 (fop .quo .f32 (floatOfInt .f32 (N : Int)) (floatOfInt .f32 (fa : Int))) (fop .sub .f32 (cn .f32 Xk) (fop .add .f32 (cn .f32 Xi) EYE)))) with
                | true =>
                  go_wp2_with (first | (go_at_call 57; refine (l01Finite_any _ _ (by assumption) _).mono ?_; rintro e w' ⟨rfl, nd, rfl⟩; simp only [hq]) | (((with_reducible refine wpList_here ?_); (first | ((with_reducible refine wpList_feq (k := ?_) (bx := ?_) (by' := ?_) (X := ?_) (Y := ?_) ?_ ?_ ?_ ?_ ?_ ?_); rotate_left 5; (first | (with_reducible exact wanted_none) | ((with_reducible refine wanted_some ?_); rfl)); (rfl); (rfl); (first | assumption | ((refine Is.lit ?_); decide +kernel) | (refine Is.ofInt _ _)); (first | assumption | ((refine Is.lit ?_); decide +kernel) | (refine Is.ofInt _ _)); (try simp only [Act.put, List.setIfInBounds_toArray, List.set_cons_succ, List.set_cons_zero, World.drewN_drewN])) | ((with_reducible refine wpList_fne (k := ?_) (bx := ?_) (by' := ?_) (X := ?_) (Y := ?_) ?_ ?_ ?_ ?_ ?_ ?_); rotate_left 5; (first | (with_reducible exact wanted_none) | ((with_reducible refine wanted_some ?_); rfl)); (rfl); (rfl); (first | assumption | ((refine Is.lit ?_); decide +kernel) | (refine Is.ofInt _ _)); (first | assumption | ((refine Is.lit ?_); decide +kernel) | (refine Is.ofInt _ _)); (try simp only [Act.put, List.setIfInBounds_toArray, List.set_cons_succ, List.set_cons_zero, World.drewN_drewN])) | ((with_reducible refine wpList_flt (k := ?_) (bx := ?_) (by' := ?_) (X := ?_) (Y := ?_) ?_ ?_ ?_ ?_ ?_ ?_); rotate_left 5; (first | (with_reducible exact wanted_none) | ((with_reducible refine wanted_some ?_); rfl)); (rfl); (rfl); (first | assumption | ((refine Is.lit ?_); decide +kernel) | (refine Is.ofInt _ _)); (first | assumption | ((refine Is.lit ?_); decide +kernel) | (refine Is.ofInt _ _)); (try simp only [Act.put, List.setIfInBounds_toArray, List.set_cons_succ, List.set_cons_zero, World.drewN_drewN])) | ((with_reducible refine wpList_fle (k := ?_) (bx := ?_) (by' := ?_) (X := ?_) (Y := ?_) ?_ ?_ ?_ ?_ ?_ ?_); rotate_left 5; (first | (with_reducible exact wanted_none) | ((with_reducible refine wanted_some ?_); rfl)); (rfl); (rfl); (first | assumption | ((refine Is.lit ?_); decide +kernel) | (refine Is.ofInt _ _)); (first | assumption | ((refine Is.lit ?_); decide +kernel) | (refine Is.ofInt _ _)); (try simp only [Act.put, List.setIfInBounds_toArray, List.set_cons_succ, List.set_cons_zero, World.drewN_drewN])) | ((with_reducible refine wpList_fgt (k := ?_) (bx := ?_) (by' := ?_) (X := ?_) (Y := ?_) ?_ ?_ ?_ ?_ ?_ ?_); rotate_left 5; (first | (with_reducible exact wanted_none) | ((with_reducible refine wanted_some ?_); rfl)); (rfl); (rfl); (first | assumption | ((refine Is.lit ?_); decide +kernel) | (refine Is.ofInt _ _)); (first | assumption | ((refine Is.lit ?_); decide +kernel) | (refine Is.ofInt _ _)); (try simp only [Act.put, List.setIfInBounds_toArray, List.set_cons_succ, List.set_cons_zero, World.drewN_drewN])) | ((with_reducible refine wpList_fge (k := ?_) (bx := ?_) (by' := ?_) (X := ?_) (Y := ?_) ?_ ?_ ?_ ?_ ?_ ?_); rotate_left 5; (first | (with_reducible exact wanted_none) | ((with_reducible refine wanted_some ?_); rfl)); (rfl); (rfl); (first | assumption | ((refine Is.lit ?_); decide +kernel) | (refine Is.ofInt _ _)); (first | assumption | ((refine Is.lit ?_); decide +kernel) | (refine Is.ofInt _ _)); (try simp only [Act.put, List.setIfInBounds_toArray, List.set_cons_succ, List.set_cons_zero, World.drewN_drewN])) | ((with_reducible refine wpList_fadd (k := ?_) (bx := ?_) (by' := ?_) (X := ?_) (Y := ?_) ?_ ?_ ?_ ?_ ?_ ?_); rotate_left 5; (first | (with_reducible exact wanted_none) | ((with_reducible refine wanted_some ?_); rfl)); (rfl); (rfl); (first | assumption | ((refine Is.lit ?_); decide +kernel) | (refine Is.ofInt _ _)); (first | assumption | ((refine Is.lit ?_); decide +kernel) | (refine Is.ofInt _ _)); (intro r nd hr); (try simp only [Act.put, List.setIfInBounds_toArray, List.set_cons_succ, List.set_cons_zero, World.drewN_drewN])) | ((with_reducible refine wpList_fsub (k := ?_) (bx := ?_) (by' := ?_) (X := ?_) (Y := ?_) ?_ ?_ ?_ ?_ ?_ ?_); rotate_left 5; (first | (with_reducible exact wanted_none) | ((with_reducible refine wanted_some ?_); rfl)); (rfl); (rfl); (first | assumption | ((refine Is.lit ?_); decide +kernel) | (refine Is.ofInt _ _)); (first | assumption | ((refine Is.lit ?_); decide +kernel) | (refine Is.ofInt _ _)); (intro r nd hr); (try simp only [Act.put, List.setIfInBounds_toArray, List.set_cons_succ, List.set_cons_zero, World.drewN_drewN])) | ((with_reducible refine wpList_fmul (k := ?_) (bx := ?_) (by' := ?_) (X := ?_) (Y := ?_) ?_ ?_ ?_ ?_ ?_ ?_); rotate_left 5; (first | (with_reducible exact wanted_none) | ((with_reducible refine wanted_some ?_); rfl)); (rfl); (rfl); (first | assumption | ((refine Is.lit ?_); decide +kernel) | (refine Is.ofInt _ _)); (first | assumption | ((refine Is.lit ?_); decide +kernel) | (refine Is.ofInt _ _)); (intro r nd hr); (try simp only [Act.put, List.setIfInBounds_toArray, List.set_cons_succ, List.set_cons_zero, World.drewN_drewN])) | ((with_reducible refine wpList_fquo (k := ?_) (bx := ?_) (by' := ?_) (X := ?_) (Y := ?_) ?_ ?_ ?_ ?_ ?_ ?_); rotate_left 5; (first | (with_reducible exact wanted_none) | ((with_reducible refine wanted_some ?_); rfl)); (rfl); (rfl); (first | assumption | ((refine Is.lit ?_); decide +kernel) | (refine Is.ofInt _ _)); (first | assumption | ((refine Is.lit ?_); decide +kernel) | (refine Is.ofInt _ _)); (intro r nd hr); (try simp only [Act.put, List.setIfInBounds_toArray, List.set_cons_succ, List.set_cons_zero, World.drewN_drewN])))); try simp only [hg]))
                  refine ⟨⟨N + 1, by omega, by omega, by simp, ?_, Lib.hid ?_, Lib.hid (hbw.out.trans (by ((repeat (first | exact Bel.refl _ | assumption | (with_reducible refine Bel.drewN ?_ _) | (refine Bel.trans (b := ?_) ?_ ?_; rotate_left 2; assumption))); (first | done | fail))))⟩, ?_⟩
                  · rw [Nat.add_sub_cancel, hst1.out, hg]; simp
                  · rw [Nat.add_sub_cancel, hst2.out, hfin.out, hq]; rfl
                  · show fa - (((N : Nat) : Int) + 1).toNat < fa - ((N : Nat) : Int).toNat
                    omega
                | false =>
                  go_wp2_with (first | (go_at_call 57; refine (l01Finite_any _ _ (by assumption) _).mono ?_; rintro e w' ⟨rfl, nd, rfl⟩; simp only [hq]) | (((with_reducible refine wpList_here ?_); (first | ((with_reducible refine wpList_feq (k := ?_) (bx := ?_) (by' := ?_) (X := ?_) (Y := ?_) ?_ ?_ ?_ ?_ ?_ ?_); rotate_left 5; (first | (with_reducible exact wanted_none) | ((with_reducible refine wanted_some ?_); rfl)); (rfl); (rfl); (first | assumption | ((refine Is.lit ?_); decide +kernel) | (refine Is.ofInt _ _)); (first | assumption | ((refine Is.lit ?_); decide +kernel) | (refine Is.ofInt _ _)); (try simp only [Act.put, List.setIfInBounds_toArray, List.set_cons_succ, List.set_cons_zero, World.drewN_drewN])) | ((with_reducible refine wpList_fne (k := ?_) (bx := ?_) (by' := ?_) (X := ?_) (Y := ?_) ?_ ?_ ?_ ?_ ?_ ?_); rotate_left 5; (first | (with_reducible exact wanted_none) | ((with_reducible refine wanted_some ?_); rfl)); (rfl); (rfl); (first | assumption | ((refine Is.lit ?_); decide +kernel) | (refine Is.ofInt _ _)); (first | assumption | ((refine Is.lit ?_); decide +kernel) | (refine Is.ofInt _ _)); (try simp only [Act.put, List.setIfInBounds_toArray, List.set_cons_succ, List.set_cons_zero, World.drewN_drewN])) | ((with_reducible refine wpList_flt (k := ?_) (bx := ?_) (by' := ?_) (X := ?_) (Y := ?_) ?_ ?_ ?_ ?_ ?_ ?_); rotate_left 5; (first | (with_reducible exact wanted_none) | ((with_reducible refine wanted_some ?_); rfl)); (rfl); (rfl); (first | assumption | ((refine Is.lit ?_); decide +kernel) | (refine Is.ofInt _ _)); (first | assumption | ((refine Is.lit ?_); decide +kernel) | (refine Is.ofInt _ _)); (try simp only [Act.put, List.setIfInBounds_toArray, List.set_cons_succ, List.set_cons_zero, World.drewN_drewN])) | ((with_reducible refine wpList_fle (k := ?_) (bx := ?_) (by' := ?_) (X := ?_) (Y := ?_) ?_ ?_ ?_ ?_ ?_ ?_); rotate_left 5; (first | (with_reducible exact wanted_none) | ((with_reducible refine wanted_some ?_); rfl)); (rfl); (rfl); (first | assumption | ((refine Is.lit ?_); decide +kernel) | (refine Is.ofInt _ _)); (first | assumption | ((refine Is.lit ?_); decide +kernel) | (refine Is.ofInt _ _)); (try simp only [Act.put, List.setIfInBounds_toArray, List.set_cons_succ, List.set_cons_zero, World.drewN_drewN])) | ((with_reducible refine wpList_fgt (k := ?_) (bx := ?_) (by' := ?_) (X := ?_) (Y := ?_) ?_ ?_ ?_ ?_ ?_ ?_); rotate_left 5; (first | (with_reducible exact wanted_none) | ((with_reducible refine wanted_some ?_); rfl)); (rfl); (rfl); (first | assumption | ((refine Is.lit ?_); decide +kernel) | (refine Is.ofInt _ _)); (first | assumption | ((refine Is.lit ?_); decide +kernel) | (refine Is.ofInt _ _)); (try simp only [Act.put, List.setIfInBounds_toArray, List.set_cons_succ, List.set_cons_zero, World.drewN_drewN])) | ((with_reducible refine wpList_fge (k := ?_) (bx := ?_) (by' := ?_) (X := ?_) (Y := ?_) ?_ ?_ ?_ ?_ ?_ ?_); rotate_left 5; (first | (with_reducible exact wanted_none) | ((with_reducible refine wanted_some ?_); rfl)); (rfl); (rfl); (first | assumption | ((refine Is.lit ?_); decide +kernel) | (refine Is.ofInt _ _)); (first | assumption | ((refine Is.lit ?_); decide +kernel) | (refine Is.ofInt _ _)); (try simp only [Act.put, List.setIfInBounds_toArray, List.set_cons_succ, List.set_cons_zero, World.drewN_drewN])) | ((with_reducible refine wpList_fadd (k := ?_) (bx := ?_) (by' := ?_) (X := ?_) (Y := ?_) ?_ ?_ ?_ ?_ ?_ ?_); rotate_left 5; (first | (with_reducible exact wanted_none) | ((with_reducible refine wanted_some ?_); rfl)); (rfl); (rfl); (first | assumption | ((refine Is.lit ?_); decide +kernel) | (refine Is.ofInt _ _)); (first | assumption | ((refine Is.lit ?_); decide +kernel) | (refine Is.ofInt _ _)); (intro r nd hr); (try simp only [Act.put, List.setIfInBounds_toArray, List.set_cons_succ, List.set_cons_zero, World.drewN_drewN])) | ((with_reducible refine wpList_fsub (k := ?_) (bx := ?_) (by' := ?_) (X := ?_) (Y := ?_) ?_ ?_ ?_ ?_ ?_ ?_); rotate_left 5; (first | (with_reducible exact wanted_none) | ((with_reducible refine wanted_some ?_); rfl)); (rfl); (rfl); (first | assumption | ((refine Is.lit ?_); decide +kernel) | (refine Is.ofInt _ _)); (first | assumption | ((refine Is.lit ?_); decide +kernel) | (refine Is.ofInt _ _)); (intro r nd hr); (try simp only [Act.put, List.setIfInBounds_toArray, List.set_cons_succ, List.set_cons_zero, World.drewN_drewN])) | ((with_reducible refine wpList_fmul (k := ?_) (bx := ?_) (by' := ?_) (X := ?_) (Y := ?_) ?_ ?_ ?_ ?_ ?_ ?_); rotate_left 5; (first | (with_reducible exact wanted_none) | ((with_reducible refine wanted_some ?_); rfl)); (rfl); (rfl); (first | assumption | ((refine Is.lit ?_); decide +kernel) | (refine Is.ofInt _ _)); (first | assumption | ((refine Is.lit ?_); decide +kernel) | (refine Is.ofInt _ _)); (intro r nd hr); (try simp only [Act.put, List.setIfInBounds_toArray, List.set_cons_succ, List.set_cons_zero, World.drewN_drewN])) | ((with_reducible refine wpList_fquo (k := ?_) (bx := ?_) (by' := ?_) (X := ?_) (Y := ?_) ?_ ?_ ?_ ?_ ?_ ?_); rotate_left 5; (first | (with_reducible exact wanted_none) | ((with_reducible refine wanted_some ?_); rfl)); (rfl); (rfl); (first | assumption | ((refine Is.lit ?_); decide +kernel) | (refine Is.ofInt _ _)); (first | assumption | ((refine Is.lit ?_); decide +kernel) | (refine Is.ofInt _ _)); (intro r nd hr); (try simp only [Act.put, List.setIfInBounds_toArray, List.set_cons_succ, List.set_cons_zero, World.drewN_drewN])))); try simp only [hg]))
                  refine ⟨⟨N + 1, by omega, by omega, by simp, ?_, Lib.hid ?_, Lib.hid (hbw.out.trans (by ((repeat (first | exact Bel.refl _ | assumption | (with_reducible refine Bel.drewN ?_ _) | (refine Bel.trans (b := ?_) ?_ ?_; rotate_left 2; assumption))); (first | done | fail))))⟩, ?_⟩
                  · rw [Nat.add_sub_cancel, hst1.out, hg]; simp
                  · rw [Nat.add_sub_cancel, hst2.out, hfin.out, hq]; rfl
                  · show fa - (((N : Nat) : Int) + 1).toNat < fa - ((N : Nat) : Int).toNat
                    omega
            · obtain rfl : N = fa := by omega
              cases hq : fin32B (fop .add .f32 (cn .f32 Xi) EYE) with
              | false =>
                go_wp2_with (first | (go_at_call 57; refine (l01Finite_any _ _ hre _).mono ?_; rintro e w' ⟨rfl, nd, rfl⟩; simp only [hq]) | ((with_reducible refine wpList_here ?_); (first | ((with_reducible refine wpList_feq (k := ?_) (bx := ?_) (by' := ?_) (X := ?_) (Y := ?_) ?_ ?_ ?_ ?_ ?_ ?_); rotate_left 5; (first | (with_reducible exact wanted_none) | ((with_reducible refine wanted_some ?_); rfl)); (rfl); (rfl); (first | assumption | ((refine Is.lit ?_); decide +kernel) | (refine Is.ofInt _ _)); (first | assumption | ((refine Is.lit ?_); decide +kernel) | (refine Is.ofInt _ _)); (try simp only [Act.put, List.setIfInBounds_toArray, List.set_cons_succ, List.set_cons_zero, World.drewN_drewN])) | ((with_reducible refine wpList_fne (k := ?_) (bx := ?_) (by' := ?_) (X := ?_) (Y := ?_) ?_ ?_ ?_ ?_ ?_ ?_); rotate_left 5; (first | (with_reducible exact wanted_none) | ((with_reducible refine wanted_some ?_); rfl)); (rfl); (rfl); (first | assumption | ((refine Is.lit ?_); decide +kernel) | (refine Is.ofInt _ _)); (first | assumption | ((refine Is.lit ?_); decide +kernel) | (refine Is.ofInt _ _)); (try simp only [Act.put, List.setIfInBounds_toArray, List.set_cons_succ, List.set_cons_zero, World.drewN_drewN])) | ((with_reducible refine wpList_flt (k := ?_) (bx := ?_) (by' := ?_) (X := ?_) (Y := ?_) ?_ ?_ ?_ ?_ ?_ ?_); rotate_left 5; (first | (with_reducible exact wanted_none) | ((with_reducible refine wanted_some ?_); rfl)); (rfl); (rfl); (first | assumption | ((refine Is.lit ?_); decide +kernel) | (refine Is.ofInt _ _)); (first | assumption | ((refine Is.lit ?_); decide +kernel) | (refine Is.ofInt _ _)); (try simp only [Act.put, List.setIfInBounds_toArray, List.set_cons_succ, List.set_cons_zero, World.drewN_drewN])) | ((with_reducible refine wpList_fle (k := ?_) (bx := ?_) (by' := ?_) (X := ?_) (Y := ?_) ?_ ?_ ?_ ?_ ?_ ?_); rotate_left 5; (first | (with_reducible exact wanted_none) | ((with_reducible refine wanted_some ?_); rfl)); (rfl); (rfl); (first | assumption | ((refine Is.lit ?_); decide +kernel) | (refine Is.ofInt _ _)); (first | assumption | ((refine Is.lit ?_); decide +kernel) | (refine Is.ofInt _ _)); (try simp only [Act.put, List.setIfInBounds_toArray, List.set_cons_succ, List.set_cons_zero, World.drewN_drewN])) | ((with_reducible refine wpList_fgt (k := ?_) (bx := ?_) (by' := ?_) (X := ?_) (Y := ?_) ?_ ?_ ?_ ?_ ?_ ?_); rotate_left 5; (first | (with_reducible exact wanted_none) | ((with_reducible refine wanted_some ?_); rfl)); (rfl); (rfl); (first | assumption | ((refine Is.lit ?_); decide +kernel) | (refine Is.ofInt _ _)); (first | assumption | ((refine Is.lit ?_); decide +kernel) | (refine Is.ofInt _ _)); (try simp only [Act.put, List.setIfInBounds_toArray, List.set_cons_succ, List.set_cons_zero, World.drewN_drewN])) | ((with_reducible refine wpList_fge (k := ?_) (bx := ?_) (by' := ?_) (X := ?_) (Y := ?_) ?_ ?_ ?_ ?_ ?_ ?_); rotate_left 5; (first | (with_reducible exact wanted_none) | ((with_reducible refine wanted_some ?_); rfl)); (rfl); (rfl); (first | assumption | ((refine Is.lit ?_); decide +kernel) | (refine Is.ofInt _ _)); (first | assumption | ((refine Is.lit ?_); decide +kernel) | (refine Is.ofInt _ _)); (try simp only [Act.put, List.setIfInBounds_toArray, List.set_cons_succ, List.set_cons_zero, World.drewN_drewN])) | ((with_reducible refine wpList_fadd (k := ?_) (bx := ?_) (by' := ?_) (X := ?_) (Y := ?_) ?_ ?_ ?_ ?_ ?_ ?_); rotate_left 5; (first | (with_reducible exact wanted_none) | ((with_reducible refine wanted_some ?_); rfl)); (rfl); (rfl); (first | assumption | ((refine Is.lit ?_); decide +kernel) | (refine Is.ofInt _ _)); (first | assumption | ((refine Is.lit ?_); decide +kernel) | (refine Is.ofInt _ _)); (intro r nd hr); (try simp only [Act.put, List.setIfInBounds_toArray, List.set_cons_succ, List.set_cons_zero, World.drewN_drewN])) | ((with_reducible refine wpList_fsub (k := ?_) (bx := ?_) (by' := ?_) (X := ?_) (Y := ?_) ?_ ?_ ?_ ?_ ?_ ?_); rotate_left 5; (first | (with_reducible exact wanted_none) | ((with_reducible refine wanted_some ?_); rfl)); (rfl); (rfl); (first | assumption | ((refine Is.lit ?_); decide +kernel) | (refine Is.ofInt _ _)); (first | assumption | ((refine Is.lit ?_); decide +kernel) | (refine Is.ofInt _ _)); (intro r nd hr); (try simp only [Act.put, List.setIfInBounds_toArray, List.set_cons_succ, List.set_cons_zero, World.drewN_drewN])) | ((with_reducible refine wpList_fmul (k := ?_) (bx := ?_) (by' := ?_) (X := ?_) (Y := ?_) ?_ ?_ ?_ ?_ ?_ ?_); rotate_left 5; (first | (with_reducible exact wanted_none) | ((with_reducible refine wanted_some ?_); rfl)); (rfl); (rfl); (first | assumption | ((refine Is.lit ?_); decide +kernel) | (refine Is.ofInt _ _)); (first | assumption | ((refine Is.lit ?_); decide +kernel) | (refine Is.ofInt _ _)); (intro r nd hr); (try simp only [Act.put, List.setIfInBounds_toArray, List.set_cons_succ, List.set_cons_zero, World.drewN_drewN])) | ((with_reducible refine wpList_fquo (k := ?_) (bx := ?_) (by' := ?_) (X := ?_) (Y := ?_) ?_ ?_ ?_ ?_ ?_ ?_); rotate_left 5; (first | (with_reducible exact wanted_none) | ((with_reducible refine wanted_some ?_); rfl)); (rfl); (rfl); (first | assumption | ((refine Is.lit ?_); decide +kernel) | (refine Is.ofInt _ _)); (first | assumption | ((refine Is.lit ?_); decide +kernel) | (refine Is.ofInt _ _)); (intro r nd hr); (try simp only [Act.put, List.setIfInBounds_toArray, List.set_cons_succ, List.set_cons_zero, World.drewN_drewN])))))
                refine bodyPost_ret (v := .tuple #[.bool false, .bool false]) (by simp [results, Try.results35, go_sem]) rfl ⟨?_, (hW.out.trans hbw.out).trans (by ((repeat (first | exact Bel.refl _ | assumption | (with_reducible refine Bel.drewN ?_ _) | (refine Bel.trans (b := ?_) ?_ ?_; rotate_left 2; assumption))); (first | done | fail)))⟩
                rw [hR.out, hEe.out, hq]; rfl
              | true =>
                go_wp2_with (first | (go_at_call 57; refine (l01Finite_any _ _ hre _).mono ?_; rintro e w' ⟨rfl, nd, rfl⟩; simp only [hq]) | ((with_reducible refine wpList_here ?_); (first | ((with_reducible refine wpList_feq (k := ?_) (bx := ?_) (by' := ?_) (X := ?_) (Y := ?_) ?_ ?_ ?_ ?_ ?_ ?_); rotate_left 5; (first | (with_reducible exact wanted_none) | ((with_reducible refine wanted_some ?_); rfl)); (rfl); (rfl); (first | assumption | ((refine Is.lit ?_); decide +kernel) | (refine Is.ofInt _ _)); (first | assumption | ((refine Is.lit ?_); decide +kernel) | (refine Is.ofInt _ _)); (try simp only [Act.put, List.setIfInBounds_toArray, List.set_cons_succ, List.set_cons_zero, World.drewN_drewN])) | ((with_reducible refine wpList_fne (k := ?_) (bx := ?_) (by' := ?_) (X := ?_) (Y := ?_) ?_ ?_ ?_ ?_ ?_ ?_); rotate_left 5; (first | (with_reducible exact wanted_none) | ((with_reducible refine wanted_some ?_); rfl)); (rfl); (rfl); (first | assumption | ((refine Is.lit ?_); decide +kernel) | (refine Is.ofInt _ _)); (first | assumption | ((refine Is.lit ?_); decide +kernel) | (refine Is.ofInt _ _)); (try simp only [Act.put, List.setIfInBounds_toArray, List.set_cons_succ, List.set_cons_zero, World.drewN_drewN])) | ((with_reducible refine wpList_flt (k := ?_) (bx := ?_) (by' := ?_) (X := ?_) (Y := ?_) ?_ ?_ ?_ ?_ ?_ ?_); rotate_left 5; (first | (with_reducible exact wanted_none) | ((with_reducible refine wanted_some ?_); rfl)); (rfl); (rfl); (first | assumption | ((refine Is.lit ?_); decide +kernel) | (refine Is.ofInt _ _)); (first | assumption | ((refine Is.lit ?_); decide +kernel) | (refine Is.ofInt _ _)); (try simp only [Act.put, List.setIfInBounds_toArray, List.set_cons_succ, List.set_cons_zero, World.drewN_drewN])) | ((with_reducible refine wpList_fle (k := ?_) (bx := ?_) (by' := ?_) (X := ?_) (Y := ?_) ?_ ?_ ?_ ?_ ?_ ?_); rotate_left 5; (first | (with_reducible exact wanted_none) | ((with_reducible refine wanted_some ?_); rfl)); (rfl); (rfl); (first | assumption | ((refine Is.lit ?_); decide +kernel) | (refine Is.ofInt _ _)); (first | assumption | ((refine Is.lit ?_); decide +kernel) | (refine Is.ofInt _ _)); (try simp only [Act.put, List.setIfInBounds_toArray, List.set_cons_succ, List.set_cons_zero, World.drewN_drewN])) | ((with_reducible refine wpList_fgt (k := ?_) (bx := ?_) (by' := ?_) (X := ?_) (Y := ?_) ?_ ?_ ?_ ?_ ?_ ?_); rotate_left 5; (first | (with_reducible exact wanted_none) | ((with_reducible refine wanted_some ?_); rfl)); (rfl); (rfl); (first | assumption | ((refine Is.lit ?_); decide +kernel) | (refine Is.ofInt _ _)); (first | assumption | ((refine Is.lit ?_); decide +kernel) | (refine Is.ofInt _ _)); (try simp only [Act.put, List.setIfInBounds_toArray, List.set_cons_succ, List.set_cons_zero, World.drewN_drewN])) | ((with_reducible refine wpList_fge (k := ?_) (bx := ?_) (by' := ?_) (X := ?_) (Y := ?_) ?_ ?_ ?_ ?_ ?_ ?_); rotate_left 5; (first | (with_reducible exact wanted_none) | ((with_reducible refine wanted_some ?_); rfl)); (rfl); (rfl); (first | assumption | ((refine Is.lit ?_); decide +kernel) | (refine Is.ofInt _ _)); (first | assumption | ((refine Is.lit ?_); decide +kernel) | (refine Is.ofInt _ _)); (try simp only [Act.put, List.setIfInBounds_toArray, List.set_cons_succ, List.set_cons_zero, World.drewN_drewN])) | ((with_reducible refine wpList_fadd (k := ?_) (bx := ?_) (by' := ?_) (X := ?_) (Y := ?_) ?_ ?_ ?_ ?_ ?_ ?_); rotate_left 5; (first | (with_reducible exact wanted_none) | ((with_reducible refine wanted_some ?_); rfl)); (rfl); (rfl); (first | assumption | ((refine Is.lit ?_); decide +kernel) | (refine Is.ofInt _ _)); (first | assumption | ((refine Is.lit ?_); decide +kernel) | (refine Is.ofInt _ _)); (intro r nd hr); (try simp only [Act.put, List.setIfInBounds_toArray, List.set_cons_succ, List.set_cons_zero, World.drewN_drewN])) | ((with_reducible refine wpList_fsub (k := ?_) (bx := ?_) (by' := ?_) (X := ?_) (Y := ?_) ?_ ?_ ?_ ?_ ?_ ?_); rotate_left 5; (first | (with_reducible exact wanted_none) | ((with_reducible refine wanted_some ?_); rfl)); (rfl); (rfl); (first | assumption | ((refine Is.lit ?_); decide +kernel) | (refine Is.ofInt _ _)); (first | assumption | ((refine Is.lit ?_); decide +kernel) | (refine Is.ofInt _ _)); (intro r nd hr); (try simp only [Act.put, List.setIfInBounds_toArray, List.set_cons_succ, List.set_cons_zero, World.drewN_drewN])) | ((with_reducible refine wpList_fmul (k := ?_) (bx := ?_) (by' := ?_) (X := ?_) (Y := ?_) ?_ ?_ ?_ ?_ ?_ ?_); rotate_left 5; (first | (with_reducible exact wanted_none) | ((with_reducible refine wanted_some ?_); rfl)); (rfl); (rfl); (first | assumption | ((refine Is.lit ?_); decide +kernel) | (refine Is.ofInt _ _)); (first | assumption | ((refine Is.lit ?_); decide +kernel) | (refine Is.ofInt _ _)); (intro r nd hr); (try simp only [Act.put, List.setIfInBounds_toArray, List.set_cons_succ, List.set_cons_zero, World.drewN_drewN])) | ((with_reducible refine wpList_fquo (k := ?_) (bx := ?_) (by' := ?_) (X := ?_) (Y := ?_) ?_ ?_ ?_ ?_ ?_ ?_); rotate_left 5; (first | (with_reducible exact wanted_none) | ((with_reducible refine wanted_some ?_); rfl)); (rfl); (rfl); (first | assumption | ((refine Is.lit ?_); decide +kernel) | (refine Is.ofInt _ _)); (first | assumption | ((refine Is.lit ?_); decide +kernel) | (refine Is.ofInt _ _)); (intro r nd hr); (try simp only [Act.put, List.setIfInBounds_toArray, List.set_cons_succ, List.set_cons_zero, World.drewN_drewN])))))
                refine bodyPost_ret (v := .tuple #[.bool (seesAll xs a i' k' EYE (N - 1)), .bool true]) (by simp [results, Try.results35, go_sem]) rfl ⟨?_, (hW.out.trans hbw.out).trans (by ((repeat (first | exact Bel.refl _ | assumption | (with_reducible refine Bel.drewN ?_ _) | (refine Bel.trans (b := ?_) ?_ ?_; rotate_left 2; assumption))); (first | done | fail)))⟩
                rw [hR.out, hEe.out, hq, hfin.out]; rfl
        · have hd : decide (0 < fa) = false := decide_eq_false h0
          have hR := Lib.hid (show seesR a b (b * a) xs i' k' EYE = (false, false) by rw [hR1.out]; unfold seesG; rw [← hfa.out, if_neg h0])
          go_wp2_with fail
          refine bodyPost_ret (v := .tuple #[.bool false, .bool false]) (by simp [results, Try.results35, go_sem]) rfl ⟨?_, hW.out⟩
          rw [hR.out]
end Go.Proofs.Ytobghfjkkkfecaa
