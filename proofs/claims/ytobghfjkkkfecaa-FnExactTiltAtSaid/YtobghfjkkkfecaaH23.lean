/-
  CONTRACTS: the tilt at a cell.
-/
import Derived.Test.YtobghfjkkkfecaaH22
import Derived.Test.YtobghfjkkkfecaaN2
import Derived.Test.YtobghfjkkkfecaaCpx
set_option linter.unusedSimpArgs false
set_option linter.unusedVariables false
namespace Go.Proofs.Ytobghfjkkkfecaa
open Go.RowKit Go.Fl

theorem l01CFinite_any (r s X Y : Nat) (hr : Is .f32 r X) (hs : Is .f32 s Y) (w : World) : Calls Try.prog 71 #[.complex .f32 r s] w (VRet (.bool (fin32B X && fin32B Y)) w) := by
  cases hX : fin32B X with
  | false =>
    go_enter Try.func71, Try.ntmps71
    go_wp2_with (go_at_call 57; refine (l01Finite_any _ _ hr _).mono ?_; rintro e w' ⟨rfl, nd, rfl⟩; simp only [hX])
    go_ret
    exact ⟨rfl, (by repeat (first | exact Dr.refl _ | apply Dr.drewN))⟩
  | true =>
    go_enter Try.func71, Try.ntmps71
    go_wp2_with (go_at_call 57; refine (l01Finite_any _ _ (by assumption) _).mono ?_; rintro e w' ⟨rfl, nd, rfl⟩; try simp only [hX])
    go_ret
    exact ⟨ret_bool (Bool.true_and _).symm, (by repeat (first | exact Dr.refl _ | apply Dr.drewN))⟩
theorem iCFinite_any (r s X Y : Nat) (hr : Is .f32 r X) (hs : Is .f32 s Y) (w : World) : Calls Try.prog 73 #[.complex .f32 r s] w (VRet (.bool (fin32B X && fin32B Y)) w) := by
  cases hX : fin32B X with
  | false =>
    go_enter Try.func73, Try.ntmps73
    go_wp2_with (go_at_call 67; refine (iIsFinite_any _ _ hr _).mono ?_; rintro e w' ⟨rfl, nd, rfl⟩; simp only [hX])
    go_ret
    exact ⟨rfl, (by repeat (first | exact Dr.refl _ | apply Dr.drewN))⟩
  | true =>
    go_enter Try.func73, Try.ntmps73
    go_wp2_with (go_at_call 67; refine (iIsFinite_any _ _ (by assumption) _).mono ?_; rintro e w' ⟨rfl, nd, rfl⟩; try simp only [hX])
    go_ret
    exact ⟨ret_bool (Bool.true_and _).symm, (by repeat (first | exact Dr.refl _ | apply Dr.drewN))⟩
def tiltOk (W H : Int) (n : Nat) (xs : List Nat) (i : Int) : Bool := cellB W H n xs i && (fin32B (tiltX xs W.toNat i.toNat) && fin32B (tiltY xs W.toNat H.toNat i.toNat))
def tiltRe (W H : Int) (n : Nat) (xs : List Nat) (i : Int) : Nat := if tiltOk W H n xs i then tiltX xs W.toNat i.toNat else 0
def tiltIm (W H : Int) (n : Nat) (xs : List Nat) (i : Int) : Nat := if tiltOk W H n xs i then tiltY xs W.toNat H.toNat i.toNat else 0
def TiRet (X Y : Nat) (ok : Bool) (w : World) (e : Ending) (w' : World) : Prop := ∃ r s, e = .returned (.tuple #[.complex .f32 r s, .bool ok]) ∧ Is .f32 r X ∧ Is .f32 s Y ∧ Bel w w'
set_option maxHeartbeats 2000000 in
theorem sTiltAt_any (w : World) (W H : Int) (ao : Option Addr) (n c : Nat) (xs : List Nat) (i : Int) (hA : FRow w ao n xs) (hm : n ≤ 1048576) :
    Calls Try.prog 32 #[hillV W H ao n c, .int .i64 i] w (TiRet (tiltRe W H n xs i) (tiltIm W H n xs i) (tiltOk W H n xs i) w) := by
  have hA' := Lib.hid (hA.alloc (.cells #[.int .i64 W, .int .i64 H, .slice ao n c] 27))
  have hX := Lib.hid (hbox_new w W H (.slice ao n c) 27)
  have hW := Lib.hid ((Bel.refl w).alloc (.cells #[.int .i64 W, .int .i64 H, .slice ao n c] 27))
  have hat := Lib.hid hA.at0
  clear hA
  cases hci : cellB W H n xs i with
  | false =>
    have hO := Lib.hid (show tiltOk W H n xs i = false by unfold tiltOk; rw [hci]; rfl)
    have hRe := Lib.hid (show tiltRe W H n xs i = 0 by unfold tiltRe; rw [hO.out]; rfl)
    have hIm := Lib.hid (show tiltIm W H n xs i = 0 by unfold tiltIm; rw [hO.out]; rfl)
    replace hci := Lib.hid hci
    go_enter Try.func32, Try.ntmps32
    go_wp2_with fail
    refine (l02Has_any _ _ W H _ _ _ xs i hX.out hA'.out hm).mono ?_
    rintro e w1 ⟨rfl, hB⟩
    rw [hci.out]
    replace hW := Lib.hid (hW.out.trans hB)
    clear hB
    go_wp2_with fail
    refine bodyPost_ret (v := .tuple #[.complex .f32 0 0, .bool false]) (by simp [results, Try.results32, go_sem]) rfl ?_
    rw [hO.out, hRe.out, hIm.out]
    exact ⟨0, 0, rfl, Is.lit (by decide +kernel), Is.lit (by decide +kernel), hW.out⟩
  | true =>
    obtain ⟨a, b, i', rfl, rfl, ha1, ha2, hb1, hb2, rfl, rfl, hil⟩ := cell_nat hci
    obtain ⟨bo, off, rfl, _⟩ := hat.out (show 0 < b * a by omega)
    have hO := Lib.hid (show tiltOk a b (b * a) xs i' = (fin32B (tiltX xs a i') && fin32B (tiltY xs a b i')) by unfold tiltOk; rw [hci]; simp)
    replace hci := Lib.hid hci
    go_enter Try.func32, Try.ntmps32
    go_wp2_with fail
    refine (l02Has_any _ _ a b _ _ _ xs i' hX.out hA'.out hm).mono ?_
    rintro e w1 ⟨rfl, hB⟩
    rw [hci.out]
    replace hW := Lib.hid (hW.out.trans hB)
    replace hX := Lib.hid (hX.out.bel hB)
    replace hA' := Lib.hid (hA'.out.bel hB)
    clear hB
    go_wp2_with fail
    refine (l02Tilt_any w1 _ a b bo off c xs i' ha1 ha2 hb1 hb2 hil hX.out hA'.out).mono ?_
    rintro e w2 ⟨r, s, rfl, hr, hs, hB⟩
    replace hW := Lib.hid (hW.out.trans hB)
    clear hB
    go_wp2_with fail
    refine (l01CFinite_any r s _ _ hr hs _).mono ?_
    rintro e w3 ⟨rfl, hD⟩
    replace hW := Lib.hid (hW.out.trans (dr_bel hD))
    clear hD
    rw [← hO.out]
    cases hok : tiltOk a b (b * a) xs i' with
    | false =>
      have hRe := Lib.hid (show tiltRe a b (b * a) xs i' = 0 by unfold tiltRe; rw [hok]; rfl)
      have hIm := Lib.hid (show tiltIm a b (b * a) xs i' = 0 by unfold tiltIm; rw [hok]; rfl)
      go_wp2_with fail
      refine bodyPost_ret (v := .tuple #[.complex .f32 0 0, .bool false]) (by simp [results, Try.results32, go_sem]) rfl ?_
      rw [hRe.out, hIm.out, hok]
      exact ⟨0, 0, rfl, Is.lit (by decide +kernel), Is.lit (by decide +kernel), hW.out⟩
    | true =>
      have hRe := Lib.hid (show tiltRe a b (b * a) xs i' = tiltX xs a i' by unfold tiltRe; rw [hok]; rfl)
      have hIm := Lib.hid (show tiltIm a b (b * a) xs i' = tiltY xs a b i' by unfold tiltIm; rw [hok]; rfl)
      go_wp2_with fail
      refine bodyPost_ret (v := .tuple #[.complex .f32 r s, .bool true]) (by simp [results, Try.results32, go_sem]) rfl ?_
      rw [hRe.out, hIm.out, hok]
      exact ⟨r, s, rfl, hr, hs, hW.out⟩
set_option maxHeartbeats 2000000 in
theorem iTiltAt_any (w : World) (W H : Int) (ao : Option Addr) (n c : Nat) (xs : List Nat) (i : Int) (hA : FRow w ao n xs) (hm : n ≤ 1048576) :
    Calls Try.prog 33 #[hillV W H ao n c, .int .i64 i] w (TiRet (tiltRe W H n xs i) (tiltIm W H n xs i) (tiltOk W H n xs i) w) := by
  have hA' := Lib.hid (hA.alloc (.cells #[.int .i64 W, .int .i64 H, .slice ao n c] 27))
  have hX := Lib.hid (hbox_new w W H (.slice ao n c) 27)
  have hW := Lib.hid ((Bel.refl w).alloc (.cells #[.int .i64 W, .int .i64 H, .slice ao n c] 27))
  have hat := Lib.hid hA.at0
  clear hA
  cases hci : cellB W H n xs i with
  | false =>
    have hO := Lib.hid (show tiltOk W H n xs i = false by unfold tiltOk; rw [hci]; rfl)
    have hRe := Lib.hid (show tiltRe W H n xs i = 0 by unfold tiltRe; rw [hO.out]; rfl)
    have hIm := Lib.hid (show tiltIm W H n xs i = 0 by unfold tiltIm; rw [hO.out]; rfl)
    replace hci := Lib.hid hci
    go_enter Try.func33, Try.ntmps33
    go_wp2_with fail
    refine (isCell_any _ W H _ _ _ xs i hA'.out hm).mono ?_
    rintro e w1 ⟨rfl, hB⟩
    rw [hci.out]
    replace hW := Lib.hid (hW.out.trans hB)
    clear hB
    go_wp2_with fail
    refine bodyPost_ret (v := .tuple #[.complex .f32 0 0, .bool false]) (by simp [results, Try.results33, go_sem]) rfl ?_
    rw [hO.out, hRe.out, hIm.out]
    exact ⟨0, 0, rfl, Is.lit (by decide +kernel), Is.lit (by decide +kernel), hW.out⟩
  | true =>
    obtain ⟨a, b, i', rfl, rfl, ha1, ha2, hb1, hb2, rfl, rfl, hil⟩ := cell_nat hci
    obtain ⟨bo, off, rfl, _⟩ := hat.out (show 0 < b * a by omega)
    have hO := Lib.hid (show tiltOk a b (b * a) xs i' = (fin32B (tiltX xs a i') && fin32B (tiltY xs a b i')) by unfold tiltOk; rw [hci]; simp)
    replace hci := Lib.hid hci
    go_enter Try.func33, Try.ntmps33
    go_wp2_with fail
    refine (isCell_any _ a b _ _ _ xs i' hA'.out hm).mono ?_
    rintro e w1 ⟨rfl, hB⟩
    rw [hci.out]
    replace hW := Lib.hid (hW.out.trans hB)
    replace hX := Lib.hid (hX.out.bel hB)
    replace hA' := Lib.hid (hA'.out.bel hB)
    clear hB
    obtain ⟨_, x0, x1, x2⟩ := hX.out
    go_wp2_with fail
    refine (tilt_any w1 a b bo off c xs i' ha1 ha2 hb1 hb2 hil hA'.out).mono ?_
    rintro e w2 ⟨r, s, rfl, hr, hs, hB⟩
    clear x0 x1 x2
    replace hW := Lib.hid (hW.out.trans hB)
    replace hX := Lib.hid (hX.out.bel hB)
    replace hA' := Lib.hid (hA'.out.bel hB)
    clear hB
    go_wp2_with fail
    refine (iCFinite_any r s _ _ hr hs _).mono ?_
    rintro e w3 ⟨rfl, hD⟩
    have hB := dr_bel hD
    replace hW := Lib.hid (hW.out.trans hB)
    replace hX := Lib.hid (hX.out.bel hB)
    replace hA' := Lib.hid (hA'.out.bel hB)
    clear hD hB
    rw [← hO.out]
    cases hok : tiltOk a b (b * a) xs i' with
    | false =>
      have hRe := Lib.hid (show tiltRe a b (b * a) xs i' = 0 by unfold tiltRe; rw [hok]; rfl)
      have hIm := Lib.hid (show tiltIm a b (b * a) xs i' = 0 by unfold tiltIm; rw [hok]; rfl)
      go_wp2_with fail
      refine bodyPost_ret (v := .tuple #[.complex .f32 0 0, .bool false]) (by simp [results, Try.results33, go_sem]) rfl ?_
      rw [hRe.out, hIm.out, hok]
      exact ⟨0, 0, rfl, Is.lit (by decide +kernel), Is.lit (by decide +kernel), hW.out⟩
    | true =>
      have hRe := Lib.hid (show tiltRe a b (b * a) xs i' = tiltX xs a i' by unfold tiltRe; rw [hok]; rfl)
      have hIm := Lib.hid (show tiltIm a b (b * a) xs i' = tiltY xs a b i' by unfold tiltIm; rw [hok]; rfl)
      obtain ⟨_, x0, x1, x2⟩ := hX.out
      go_wp2_with fail
      refine (tilt_any w3 a b bo off c xs i' ha1 ha2 hb1 hb2 hil hA'.out).mono ?_
      rintro e w4 ⟨r2, s2, rfl, hr2, hs2, hB⟩
      replace hW := Lib.hid (hW.out.trans hB)
      clear hB x0 x1 x2
      go_wp2_with fail
      refine bodyPost_ret (v := .tuple #[.complex .f32 r2 s2, .bool true]) (by simp [results, Try.results33, go_sem]) rfl ?_
      rw [hRe.out, hIm.out, hok]
      exact ⟨r2, s2, rfl, hr2, hs2, hW.out⟩
theorem sameComplex_same (a b c d A B : Nat) (ha : Is .f64 a A) (hb : Is .f64 b B) (hc : Is .f64 c A) (hd : Is .f64 d B) (w : World) : Calls Try.prog 34 #[.complex .f64 a b, .complex .f64 c d] w (VRet (.bool true) w) := by
  go_enter Try.func34, Try.ntmps34
  go_wp2_with (first | (go_at_call 41; refine (sameFloat_any _ _ _ _ (by assumption) (by assumption) _).mono ?_; rintro e w' ⟨rfl, nd, rfl⟩; simp only [beq_self_eq_true]) | ((with_reducible refine wpList_here ?_); (first | ((with_reducible refine wpList_feq (k := ?_) (bx := ?_) (by' := ?_) (X := ?_) (Y := ?_) ?_ ?_ ?_ ?_ ?_ ?_); rotate_left 5; (first | (with_reducible exact wanted_none) | ((with_reducible refine wanted_some ?_); rfl)); (rfl); (rfl); (first | assumption | ((refine Is.lit ?_); decide +kernel) | (refine Is.ofInt _ _)); (first | assumption | ((refine Is.lit ?_); decide +kernel) | (refine Is.ofInt _ _)); (try simp only [Act.put, List.setIfInBounds_toArray, List.set_cons_succ, List.set_cons_zero, World.drewN_drewN])) | ((with_reducible refine wpList_fne (k := ?_) (bx := ?_) (by' := ?_) (X := ?_) (Y := ?_) ?_ ?_ ?_ ?_ ?_ ?_); rotate_left 5; (first | (with_reducible exact wanted_none) | ((with_reducible refine wanted_some ?_); rfl)); (rfl); (rfl); (first | assumption | ((refine Is.lit ?_); decide +kernel) | (refine Is.ofInt _ _)); (first | assumption | ((refine Is.lit ?_); decide +kernel) | (refine Is.ofInt _ _)); (try simp only [Act.put, List.setIfInBounds_toArray, List.set_cons_succ, List.set_cons_zero, World.drewN_drewN])) | ((with_reducible refine wpList_flt (k := ?_) (bx := ?_) (by' := ?_) (X := ?_) (Y := ?_) ?_ ?_ ?_ ?_ ?_ ?_); rotate_left 5; (first | (with_reducible exact wanted_none) | ((with_reducible refine wanted_some ?_); rfl)); (rfl); (rfl); (first | assumption | ((refine Is.lit ?_); decide +kernel) | (refine Is.ofInt _ _)); (first | assumption | ((refine Is.lit ?_); decide +kernel) | (refine Is.ofInt _ _)); (try simp only [Act.put, List.setIfInBounds_toArray, List.set_cons_succ, List.set_cons_zero, World.drewN_drewN])) | ((with_reducible refine wpList_fle (k := ?_) (bx := ?_) (by' := ?_) (X := ?_) (Y := ?_) ?_ ?_ ?_ ?_ ?_ ?_); rotate_left 5; (first | (with_reducible exact wanted_none) | ((with_reducible refine wanted_some ?_); rfl)); (rfl); (rfl); (first | assumption | ((refine Is.lit ?_); decide +kernel) | (refine Is.ofInt _ _)); (first | assumption | ((refine Is.lit ?_); decide +kernel) | (refine Is.ofInt _ _)); (try simp only [Act.put, List.setIfInBounds_toArray, List.set_cons_succ, List.set_cons_zero, World.drewN_drewN])) | ((with_reducible refine wpList_fgt (k := ?_) (bx := ?_) (by' := ?_) (X := ?_) (Y := ?_) ?_ ?_ ?_ ?_ ?_ ?_); rotate_left 5; (first | (with_reducible exact wanted_none) | ((with_reducible refine wanted_some ?_); rfl)); (rfl); (rfl); (first | assumption | ((refine Is.lit ?_); decide +kernel) | (refine Is.ofInt _ _)); (first | assumption | ((refine Is.lit ?_); decide +kernel) | (refine Is.ofInt _ _)); (try simp only [Act.put, List.setIfInBounds_toArray, List.set_cons_succ, List.set_cons_zero, World.drewN_drewN])) | ((with_reducible refine wpList_fge (k := ?_) (bx := ?_) (by' := ?_) (X := ?_) (Y := ?_) ?_ ?_ ?_ ?_ ?_ ?_); rotate_left 5; (first | (with_reducible exact wanted_none) | ((with_reducible refine wanted_some ?_); rfl)); (rfl); (rfl); (first | assumption | ((refine Is.lit ?_); decide +kernel) | (refine Is.ofInt _ _)); (first | assumption | ((refine Is.lit ?_); decide +kernel) | (refine Is.ofInt _ _)); (try simp only [Act.put, List.setIfInBounds_toArray, List.set_cons_succ, List.set_cons_zero, World.drewN_drewN])) | ((with_reducible refine wpList_fadd (k := ?_) (bx := ?_) (by' := ?_) (X := ?_) (Y := ?_) ?_ ?_ ?_ ?_ ?_ ?_); rotate_left 5; (first | (with_reducible exact wanted_none) | ((with_reducible refine wanted_some ?_); rfl)); (rfl); (rfl); (first | assumption | ((refine Is.lit ?_); decide +kernel) | (refine Is.ofInt _ _)); (first | assumption | ((refine Is.lit ?_); decide +kernel) | (refine Is.ofInt _ _)); (intro r nd hr); (try simp only [Act.put, List.setIfInBounds_toArray, List.set_cons_succ, List.set_cons_zero, World.drewN_drewN])) | ((with_reducible refine wpList_fsub (k := ?_) (bx := ?_) (by' := ?_) (X := ?_) (Y := ?_) ?_ ?_ ?_ ?_ ?_ ?_); rotate_left 5; (first | (with_reducible exact wanted_none) | ((with_reducible refine wanted_some ?_); rfl)); (rfl); (rfl); (first | assumption | ((refine Is.lit ?_); decide +kernel) | (refine Is.ofInt _ _)); (first | assumption | ((refine Is.lit ?_); decide +kernel) | (refine Is.ofInt _ _)); (intro r nd hr); (try simp only [Act.put, List.setIfInBounds_toArray, List.set_cons_succ, List.set_cons_zero, World.drewN_drewN])) | ((with_reducible refine wpList_fmul (k := ?_) (bx := ?_) (by' := ?_) (X := ?_) (Y := ?_) ?_ ?_ ?_ ?_ ?_ ?_); rotate_left 5; (first | (with_reducible exact wanted_none) | ((with_reducible refine wanted_some ?_); rfl)); (rfl); (rfl); (first | assumption | ((refine Is.lit ?_); decide +kernel) | (refine Is.ofInt _ _)); (first | assumption | ((refine Is.lit ?_); decide +kernel) | (refine Is.ofInt _ _)); (intro r nd hr); (try simp only [Act.put, List.setIfInBounds_toArray, List.set_cons_succ, List.set_cons_zero, World.drewN_drewN])) | ((with_reducible refine wpList_fquo (k := ?_) (bx := ?_) (by' := ?_) (X := ?_) (Y := ?_) ?_ ?_ ?_ ?_ ?_ ?_); rotate_left 5; (first | (with_reducible exact wanted_none) | ((with_reducible refine wanted_some ?_); rfl)); (rfl); (rfl); (first | assumption | ((refine Is.lit ?_); decide +kernel) | (refine Is.ofInt _ _)); (first | assumption | ((refine Is.lit ?_); decide +kernel) | (refine Is.ofInt _ _)); (intro r nd hr); (try simp only [Act.put, List.setIfInBounds_toArray, List.set_cons_succ, List.set_cons_zero, World.drewN_drewN])) | ((with_reducible refine wpList_widen Try.underlying32 Try.underlying56 (bx := ?_) (X := ?_) ?_ ?_ ?_ ?_); rotate_left 2; (first | (with_reducible exact wanted_none) | ((with_reducible refine wanted_some ?_); rfl)); (rfl); (first | assumption | ((refine Is.lit ?_); decide +kernel) | (refine Is.ofInt _ _)); (intro r nd hr); (try simp only [Act.put, List.setIfInBounds_toArray, List.set_cons_succ, List.set_cons_zero, World.drewN_drewN])) | ((with_reducible refine wpList_narrow Try.underlying56 Try.underlying32 (bx := ?_) (X := ?_) ?_ ?_ ?_ ?_ ?_); rotate_left 2; (first | (with_reducible exact wanted_none) | ((with_reducible refine wanted_some ?_); rfl)); (rfl); (first | assumption | ((refine Is.lit ?_); decide +kernel) | (refine Is.ofInt _ _)); assumption; (intro r nd hr); (try simp only [Act.put, List.setIfInBounds_toArray, List.set_cons_succ, List.set_cons_zero, World.drewN_drewN])) | ((with_reducible refine wpList_fneg (k := ?_) (bx := ?_) (X := ?_) ?_ ?_ ?_ ?_); rotate_left 3; (first | (with_reducible exact wanted_none) | ((with_reducible refine wanted_some ?_); rfl)); (rfl); (first | assumption | ((refine Is.lit ?_); decide +kernel) | (refine Is.ofInt _ _)); (intro r hr); (try simp only [Act.put, List.setIfInBounds_toArray, List.set_cons_succ, List.set_cons_zero, World.drewN_drewN])))))
  go_ret
  exact ⟨rfl, (by repeat (first | exact Dr.refl _ | apply Dr.drewN))⟩
end Go.Proofs.Ytobghfjkkkfecaa
