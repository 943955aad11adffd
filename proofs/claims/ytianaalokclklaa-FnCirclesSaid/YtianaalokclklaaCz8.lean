/-
  PLAIN LAWS AND CONTRACTS, part 8.
-/
import Derived.Test.YtianaalokclklaaCz4
import Derived.Test.YtianaalokclklaaCz6
import Derived.Test.YtianaalokclklaaCzCd
import Derived.Test.YtianaalokclklaaCzCk1
import Derived.Test.YtianaalokclklaaCzCk2
import Derived.Test.YtianaalokclklaaCzCk3
import Derived.Test.YtianaalokclklaaCzCk4
import Derived.Test.YtianaalokclklaaCzCk5
import Derived.Test.YtianaalokclklaaCzCk6
import Derived.Test.YtianaalokclklaaCzCk7
import Derived.Test.YtianaalokclklaaCzCp1
import Derived.Test.YtianaalokclklaaCzCp2
import Derived.Test.YtianaalokclklaaCzCp3
import Derived.Test.YtianaalokclklaaCzCp4

/-
  CONTRACTS: gaps, near complex numbers, the angle of a complex number.
-/
section
set_option linter.unusedSimpArgs false
set_option linter.unusedVariables false
namespace Go.Proofs.Ytianaalokclklaa
open Go.RowKit Go.Fl

theorem b10Gap_any (a A b B : Nat) (ha : Is .f64 a A) (hb : Is .f64 b B) (w : World) : Calls Try.prog 8 #[.float .f64 a, .float .f64 b] w (FRet .f64 (gapG A B) w) := by
  cases hf : flt .f64 A B with
  | true =>
    go_enter Try.func8, Try.ntmps8
    go_wp2_with (((with_reducible refine wpList_here ?_); (first | ((with_reducible refine wpList_feq (k := ?_) (bx := ?_) (by' := ?_) (X := ?_) (Y := ?_) ?_ ?_ ?_ ?_ ?_ ?_); rotate_left 5; (first | (with_reducible exact wanted_none) | ((with_reducible refine wanted_some ?_); rfl)); (rfl); (rfl); (first | assumption | ((refine Is.lit ?_); decide +kernel) | (refine Is.ofInt _ _)); (first | assumption | ((refine Is.lit ?_); decide +kernel) | (refine Is.ofInt _ _)); (try simp only [Act.put, List.setIfInBounds_toArray, List.set_cons_succ, List.set_cons_zero, World.drewN_drewN])) | ((with_reducible refine wpList_fne (k := ?_) (bx := ?_) (by' := ?_) (X := ?_) (Y := ?_) ?_ ?_ ?_ ?_ ?_ ?_); rotate_left 5; (first | (with_reducible exact wanted_none) | ((with_reducible refine wanted_some ?_); rfl)); (rfl); (rfl); (first | assumption | ((refine Is.lit ?_); decide +kernel) | (refine Is.ofInt _ _)); (first | assumption | ((refine Is.lit ?_); decide +kernel) | (refine Is.ofInt _ _)); (try simp only [Act.put, List.setIfInBounds_toArray, List.set_cons_succ, List.set_cons_zero, World.drewN_drewN])) | ((with_reducible refine wpList_flt (k := ?_) (bx := ?_) (by' := ?_) (X := ?_) (Y := ?_) ?_ ?_ ?_ ?_ ?_ ?_); rotate_left 5; (first | (with_reducible exact wanted_none) | ((with_reducible refine wanted_some ?_); rfl)); (rfl); (rfl); (first | assumption | ((refine Is.lit ?_); decide +kernel) | (refine Is.ofInt _ _)); (first | assumption | ((refine Is.lit ?_); decide +kernel) | (refine Is.ofInt _ _)); (try simp only [Act.put, List.setIfInBounds_toArray, List.set_cons_succ, List.set_cons_zero, World.drewN_drewN])) | ((with_reducible refine wpList_fle (k := ?_) (bx := ?_) (by' := ?_) (X := ?_) (Y := ?_) ?_ ?_ ?_ ?_ ?_ ?_); rotate_left 5; (first | (with_reducible exact wanted_none) | ((with_reducible refine wanted_some ?_); rfl)); (rfl); (rfl); (first | assumption | ((refine Is.lit ?_); decide +kernel) | (refine Is.ofInt _ _)); (first | assumption | ((refine Is.lit ?_); decide +kernel) | (refine Is.ofInt _ _)); (try simp only [Act.put, List.setIfInBounds_toArray, List.set_cons_succ, List.set_cons_zero, World.drewN_drewN])) | ((with_reducible refine wpList_fgt (k := ?_) (bx := ?_) (by' := ?_) (X := ?_) (Y := ?_) ?_ ?_ ?_ ?_ ?_ ?_); rotate_left 5; (first | (with_reducible exact wanted_none) | ((with_reducible refine wanted_some ?_); rfl)); (rfl); (rfl); (first | assumption | ((refine Is.lit ?_); decide +kernel) | (refine Is.ofInt _ _)); (first | assumption | ((refine Is.lit ?_); decide +kernel) | (refine Is.ofInt _ _)); (try simp only [Act.put, List.setIfInBounds_toArray, List.set_cons_succ, List.set_cons_zero, World.drewN_drewN])) | ((with_reducible refine wpList_fge (k := ?_) (bx := ?_) (by' := ?_) (X := ?_) (Y := ?_) ?_ ?_ ?_ ?_ ?_ ?_); rotate_left 5; (first | (with_reducible exact wanted_none) | ((with_reducible refine wanted_some ?_); rfl)); (rfl); (rfl); (first | assumption | ((refine Is.lit ?_); decide +kernel) | (refine Is.ofInt _ _)); (first | assumption | ((refine Is.lit ?_); decide +kernel) | (refine Is.ofInt _ _)); (try simp only [Act.put, List.setIfInBounds_toArray, List.set_cons_succ, List.set_cons_zero, World.drewN_drewN])) | ((with_reducible refine wpList_fadd (k := ?_) (bx := ?_) (by' := ?_) (X := ?_) (Y := ?_) ?_ ?_ ?_ ?_ ?_ ?_); rotate_left 5; (first | (with_reducible exact wanted_none) | ((with_reducible refine wanted_some ?_); rfl)); (rfl); (rfl); (first | assumption | ((refine Is.lit ?_); decide +kernel) | (refine Is.ofInt _ _)); (first | assumption | ((refine Is.lit ?_); decide +kernel) | (refine Is.ofInt _ _)); (intro r nd hr); (try simp only [Act.put, List.setIfInBounds_toArray, List.set_cons_succ, List.set_cons_zero, World.drewN_drewN])) | ((with_reducible refine wpList_fsub (k := ?_) (bx := ?_) (by' := ?_) (X := ?_) (Y := ?_) ?_ ?_ ?_ ?_ ?_ ?_); rotate_left 5; (first | (with_reducible exact wanted_none) | ((with_reducible refine wanted_some ?_); rfl)); (rfl); (rfl); (first | assumption | ((refine Is.lit ?_); decide +kernel) | (refine Is.ofInt _ _)); (first | assumption | ((refine Is.lit ?_); decide +kernel) | (refine Is.ofInt _ _)); (intro r nd hr); (try simp only [Act.put, List.setIfInBounds_toArray, List.set_cons_succ, List.set_cons_zero, World.drewN_drewN])) | ((with_reducible refine wpList_fmul (k := ?_) (bx := ?_) (by' := ?_) (X := ?_) (Y := ?_) ?_ ?_ ?_ ?_ ?_ ?_); rotate_left 5; (first | (with_reducible exact wanted_none) | ((with_reducible refine wanted_some ?_); rfl)); (rfl); (rfl); (first | assumption | ((refine Is.lit ?_); decide +kernel) | (refine Is.ofInt _ _)); (first | assumption | ((refine Is.lit ?_); decide +kernel) | (refine Is.ofInt _ _)); (intro r nd hr); (try simp only [Act.put, List.setIfInBounds_toArray, List.set_cons_succ, List.set_cons_zero, World.drewN_drewN])) | ((with_reducible refine wpList_fquo (k := ?_) (bx := ?_) (by' := ?_) (X := ?_) (Y := ?_) ?_ ?_ ?_ ?_ ?_ ?_); rotate_left 5; (first | (with_reducible exact wanted_none) | ((with_reducible refine wanted_some ?_); rfl)); (rfl); (rfl); (first | assumption | ((refine Is.lit ?_); decide +kernel) | (refine Is.ofInt _ _)); (first | assumption | ((refine Is.lit ?_); decide +kernel) | (refine Is.ofInt _ _)); (intro r nd hr); (try simp only [Act.put, List.setIfInBounds_toArray, List.set_cons_succ, List.set_cons_zero, World.drewN_drewN])))); try simp only [hf])
    go_ret
    exact ⟨_, rfl, by unfold gapG; rw [hf]; assumption, (by repeat (first | exact Dr.refl _ | apply Dr.drewN))⟩
  | false =>
    go_enter Try.func8, Try.ntmps8
    go_wp2_with (((with_reducible refine wpList_here ?_); (first | ((with_reducible refine wpList_feq (k := ?_) (bx := ?_) (by' := ?_) (X := ?_) (Y := ?_) ?_ ?_ ?_ ?_ ?_ ?_); rotate_left 5; (first | (with_reducible exact wanted_none) | ((with_reducible refine wanted_some ?_); rfl)); (rfl); (rfl); (first | assumption | ((refine Is.lit ?_); decide +kernel) | (refine Is.ofInt _ _)); (first | assumption | ((refine Is.lit ?_); decide +kernel) | (refine Is.ofInt _ _)); (try simp only [Act.put, List.setIfInBounds_toArray, List.set_cons_succ, List.set_cons_zero, World.drewN_drewN])) | ((with_reducible refine wpList_fne (k := ?_) (bx := ?_) (by' := ?_) (X := ?_) (Y := ?_) ?_ ?_ ?_ ?_ ?_ ?_); rotate_left 5; (first | (with_reducible exact wanted_none) | ((with_reducible refine wanted_some ?_); rfl)); (rfl); (rfl); (first | assumption | ((refine Is.lit ?_); decide +kernel) | (refine Is.ofInt _ _)); (first | assumption | ((refine Is.lit ?_); decide +kernel) | (refine Is.ofInt _ _)); (try simp only [Act.put, List.setIfInBounds_toArray, List.set_cons_succ, List.set_cons_zero, World.drewN_drewN])) | ((with_reducible refine wpList_flt (k := ?_) (bx := ?_) (by' := ?_) (X := ?_) (Y := ?_) ?_ ?_ ?_ ?_ ?_ ?_); rotate_left 5; (first | (with_reducible exact wanted_none) | ((with_reducible refine wanted_some ?_); rfl)); (rfl); (rfl); (first | assumption | ((refine Is.lit ?_); decide +kernel) | (refine Is.ofInt _ _)); (first | assumption | ((refine Is.lit ?_); decide +kernel) | (refine Is.ofInt _ _)); (try simp only [Act.put, List.setIfInBounds_toArray, List.set_cons_succ, List.set_cons_zero, World.drewN_drewN])) | ((with_reducible refine wpList_fle (k := ?_) (bx := ?_) (by' := ?_) (X := ?_) (Y := ?_) ?_ ?_ ?_ ?_ ?_ ?_); rotate_left 5; (first | (with_reducible exact wanted_none) | ((with_reducible refine wanted_some ?_); rfl)); (rfl); (rfl); (first | assumption | ((refine Is.lit ?_); decide +kernel) | (refine Is.ofInt _ _)); (first | assumption | ((refine Is.lit ?_); decide +kernel) | (refine Is.ofInt _ _)); (try simp only [Act.put, List.setIfInBounds_toArray, List.set_cons_succ, List.set_cons_zero, World.drewN_drewN])) | ((with_reducible refine wpList_fgt (k := ?_) (bx := ?_) (by' := ?_) (X := ?_) (Y := ?_) ?_ ?_ ?_ ?_ ?_ ?_); rotate_left 5; (first | (with_reducible exact wanted_none) | ((with_reducible refine wanted_some ?_); rfl)); (rfl); (rfl); (first | assumption | ((refine Is.lit ?_); decide +kernel) | (refine Is.ofInt _ _)); (first | assumption | ((refine Is.lit ?_); decide +kernel) | (refine Is.ofInt _ _)); (try simp only [Act.put, List.setIfInBounds_toArray, List.set_cons_succ, List.set_cons_zero, World.drewN_drewN])) | ((with_reducible refine wpList_fge (k := ?_) (bx := ?_) (by' := ?_) (X := ?_) (Y := ?_) ?_ ?_ ?_ ?_ ?_ ?_); rotate_left 5; (first | (with_reducible exact wanted_none) | ((with_reducible refine wanted_some ?_); rfl)); (rfl); (rfl); (first | assumption | ((refine Is.lit ?_); decide +kernel) | (refine Is.ofInt _ _)); (first | assumption | ((refine Is.lit ?_); decide +kernel) | (refine Is.ofInt _ _)); (try simp only [Act.put, List.setIfInBounds_toArray, List.set_cons_succ, List.set_cons_zero, World.drewN_drewN])) | ((with_reducible refine wpList_fadd (k := ?_) (bx := ?_) (by' := ?_) (X := ?_) (Y := ?_) ?_ ?_ ?_ ?_ ?_ ?_); rotate_left 5; (first | (with_reducible exact wanted_none) | ((with_reducible refine wanted_some ?_); rfl)); (rfl); (rfl); (first | assumption | ((refine Is.lit ?_); decide +kernel) | (refine Is.ofInt _ _)); (first | assumption | ((refine Is.lit ?_); decide +kernel) | (refine Is.ofInt _ _)); (intro r nd hr); (try simp only [Act.put, List.setIfInBounds_toArray, List.set_cons_succ, List.set_cons_zero, World.drewN_drewN])) | ((with_reducible refine wpList_fsub (k := ?_) (bx := ?_) (by' := ?_) (X := ?_) (Y := ?_) ?_ ?_ ?_ ?_ ?_ ?_); rotate_left 5; (first | (with_reducible exact wanted_none) | ((with_reducible refine wanted_some ?_); rfl)); (rfl); (rfl); (first | assumption | ((refine Is.lit ?_); decide +kernel) | (refine Is.ofInt _ _)); (first | assumption | ((refine Is.lit ?_); decide +kernel) | (refine Is.ofInt _ _)); (intro r nd hr); (try simp only [Act.put, List.setIfInBounds_toArray, List.set_cons_succ, List.set_cons_zero, World.drewN_drewN])) | ((with_reducible refine wpList_fmul (k := ?_) (bx := ?_) (by' := ?_) (X := ?_) (Y := ?_) ?_ ?_ ?_ ?_ ?_ ?_); rotate_left 5; (first | (with_reducible exact wanted_none) | ((with_reducible refine wanted_some ?_); rfl)); (rfl); (rfl); (first | assumption | ((refine Is.lit ?_); decide +kernel) | (refine Is.ofInt _ _)); (first | assumption | ((refine Is.lit ?_); decide +kernel) | (refine Is.ofInt _ _)); (intro r nd hr); (try simp only [Act.put, List.setIfInBounds_toArray, List.set_cons_succ, List.set_cons_zero, World.drewN_drewN])) | ((with_reducible refine wpList_fquo (k := ?_) (bx := ?_) (by' := ?_) (X := ?_) (Y := ?_) ?_ ?_ ?_ ?_ ?_ ?_); rotate_left 5; (first | (with_reducible exact wanted_none) | ((with_reducible refine wanted_some ?_); rfl)); (rfl); (rfl); (first | assumption | ((refine Is.lit ?_); decide +kernel) | (refine Is.ofInt _ _)); (first | assumption | ((refine Is.lit ?_); decide +kernel) | (refine Is.ofInt _ _)); (intro r nd hr); (try simp only [Act.put, List.setIfInBounds_toArray, List.set_cons_succ, List.set_cons_zero, World.drewN_drewN])))); try simp only [hf])
    go_ret
    exact ⟨_, rfl, by unfold gapG; rw [hf]; assumption, (by repeat (first | exact Dr.refl _ | apply Dr.drewN))⟩
theorem b10Near_yes (a A b B c C d D m M : Nat) (ha : Is .f32 a A) (hb : Is .f32 b B) (hc : Is .f32 c C) (hd : Is .f32 d D) (hm : Is .f64 m M) (h1 : fle .f64 (gapG (wid A) (wid C)) M = true) (h2 : fle .f64 (gapG (wid B) (wid D)) M = true) (w : World) :
    Calls Try.prog 10 #[.complex .f32 a b, .complex .f32 c d, .float .f64 m] w (VRet (.bool true) w) := by
  go_enter Try.func10, Try.ntmps10
  go_wp2_with (first
    | (go_at_call 8; refine (b10Gap_any _ _ _ _ (by assumption) (by assumption) _).mono ?_; rintro e w' ⟨r, rfl, hr, nd, rfl⟩)
    | (((with_reducible refine wpList_here ?_); (first | ((with_reducible refine wpList_feq (k := ?_) (bx := ?_) (by' := ?_) (X := ?_) (Y := ?_) ?_ ?_ ?_ ?_ ?_ ?_); rotate_left 5; (first | (with_reducible exact wanted_none) | ((with_reducible refine wanted_some ?_); rfl)); (rfl); (rfl); (first | assumption | ((refine Is.lit ?_); decide +kernel) | (refine Is.ofInt _ _)); (first | assumption | ((refine Is.lit ?_); decide +kernel) | (refine Is.ofInt _ _)); (try simp only [Act.put, List.setIfInBounds_toArray, List.set_cons_succ, List.set_cons_zero, World.drewN_drewN])) | ((with_reducible refine wpList_fne (k := ?_) (bx := ?_) (by' := ?_) (X := ?_) (Y := ?_) ?_ ?_ ?_ ?_ ?_ ?_); rotate_left 5; (first | (with_reducible exact wanted_none) | ((with_reducible refine wanted_some ?_); rfl)); (rfl); (rfl); (first | assumption | ((refine Is.lit ?_); decide +kernel) | (refine Is.ofInt _ _)); (first | assumption | ((refine Is.lit ?_); decide +kernel) | (refine Is.ofInt _ _)); (try simp only [Act.put, List.setIfInBounds_toArray, List.set_cons_succ, List.set_cons_zero, World.drewN_drewN])) | ((with_reducible refine wpList_flt (k := ?_) (bx := ?_) (by' := ?_) (X := ?_) (Y := ?_) ?_ ?_ ?_ ?_ ?_ ?_); rotate_left 5; (first | (with_reducible exact wanted_none) | ((with_reducible refine wanted_some ?_); rfl)); (rfl); (rfl); (first | assumption | ((refine Is.lit ?_); decide +kernel) | (refine Is.ofInt _ _)); (first | assumption | ((refine Is.lit ?_); decide +kernel) | (refine Is.ofInt _ _)); (try simp only [Act.put, List.setIfInBounds_toArray, List.set_cons_succ, List.set_cons_zero, World.drewN_drewN])) | ((with_reducible refine wpList_fle (k := ?_) (bx := ?_) (by' := ?_) (X := ?_) (Y := ?_) ?_ ?_ ?_ ?_ ?_ ?_); rotate_left 5; (first | (with_reducible exact wanted_none) | ((with_reducible refine wanted_some ?_); rfl)); (rfl); (rfl); (first | assumption | ((refine Is.lit ?_); decide +kernel) | (refine Is.ofInt _ _)); (first | assumption | ((refine Is.lit ?_); decide +kernel) | (refine Is.ofInt _ _)); (try simp only [Act.put, List.setIfInBounds_toArray, List.set_cons_succ, List.set_cons_zero, World.drewN_drewN])) | ((with_reducible refine wpList_fgt (k := ?_) (bx := ?_) (by' := ?_) (X := ?_) (Y := ?_) ?_ ?_ ?_ ?_ ?_ ?_); rotate_left 5; (first | (with_reducible exact wanted_none) | ((with_reducible refine wanted_some ?_); rfl)); (rfl); (rfl); (first | assumption | ((refine Is.lit ?_); decide +kernel) | (refine Is.ofInt _ _)); (first | assumption | ((refine Is.lit ?_); decide +kernel) | (refine Is.ofInt _ _)); (try simp only [Act.put, List.setIfInBounds_toArray, List.set_cons_succ, List.set_cons_zero, World.drewN_drewN])) | ((with_reducible refine wpList_fge (k := ?_) (bx := ?_) (by' := ?_) (X := ?_) (Y := ?_) ?_ ?_ ?_ ?_ ?_ ?_); rotate_left 5; (first | (with_reducible exact wanted_none) | ((with_reducible refine wanted_some ?_); rfl)); (rfl); (rfl); (first | assumption | ((refine Is.lit ?_); decide +kernel) | (refine Is.ofInt _ _)); (first | assumption | ((refine Is.lit ?_); decide +kernel) | (refine Is.ofInt _ _)); (try simp only [Act.put, List.setIfInBounds_toArray, List.set_cons_succ, List.set_cons_zero, World.drewN_drewN])) | ((with_reducible refine wpList_fadd (k := ?_) (bx := ?_) (by' := ?_) (X := ?_) (Y := ?_) ?_ ?_ ?_ ?_ ?_ ?_); rotate_left 5; (first | (with_reducible exact wanted_none) | ((with_reducible refine wanted_some ?_); rfl)); (rfl); (rfl); (first | assumption | ((refine Is.lit ?_); decide +kernel) | (refine Is.ofInt _ _)); (first | assumption | ((refine Is.lit ?_); decide +kernel) | (refine Is.ofInt _ _)); (intro r nd hr); (try simp only [Act.put, List.setIfInBounds_toArray, List.set_cons_succ, List.set_cons_zero, World.drewN_drewN])) | ((with_reducible refine wpList_fsub (k := ?_) (bx := ?_) (by' := ?_) (X := ?_) (Y := ?_) ?_ ?_ ?_ ?_ ?_ ?_); rotate_left 5; (first | (with_reducible exact wanted_none) | ((with_reducible refine wanted_some ?_); rfl)); (rfl); (rfl); (first | assumption | ((refine Is.lit ?_); decide +kernel) | (refine Is.ofInt _ _)); (first | assumption | ((refine Is.lit ?_); decide +kernel) | (refine Is.ofInt _ _)); (intro r nd hr); (try simp only [Act.put, List.setIfInBounds_toArray, List.set_cons_succ, List.set_cons_zero, World.drewN_drewN])) | ((with_reducible refine wpList_fmul (k := ?_) (bx := ?_) (by' := ?_) (X := ?_) (Y := ?_) ?_ ?_ ?_ ?_ ?_ ?_); rotate_left 5; (first | (with_reducible exact wanted_none) | ((with_reducible refine wanted_some ?_); rfl)); (rfl); (rfl); (first | assumption | ((refine Is.lit ?_); decide +kernel) | (refine Is.ofInt _ _)); (first | assumption | ((refine Is.lit ?_); decide +kernel) | (refine Is.ofInt _ _)); (intro r nd hr); (try simp only [Act.put, List.setIfInBounds_toArray, List.set_cons_succ, List.set_cons_zero, World.drewN_drewN])) | ((with_reducible refine wpList_fquo (k := ?_) (bx := ?_) (by' := ?_) (X := ?_) (Y := ?_) ?_ ?_ ?_ ?_ ?_ ?_); rotate_left 5; (first | (with_reducible exact wanted_none) | ((with_reducible refine wanted_some ?_); rfl)); (rfl); (rfl); (first | assumption | ((refine Is.lit ?_); decide +kernel) | (refine Is.ofInt _ _)); (first | assumption | ((refine Is.lit ?_); decide +kernel) | (refine Is.ofInt _ _)); (intro r nd hr); (try simp only [Act.put, List.setIfInBounds_toArray, List.set_cons_succ, List.set_cons_zero, World.drewN_drewN])) | ((with_reducible refine wpList_widen Try.underlying28 Try.underlying27 (bx := ?_) (X := ?_) ?_ ?_ ?_ ?_); rotate_left 2; (first | (with_reducible exact wanted_none) | ((with_reducible refine wanted_some ?_); rfl)); (rfl); (first | assumption | ((refine Is.lit ?_); decide +kernel) | (refine Is.ofInt _ _)); (intro r nd hr); (try simp only [Act.put, List.setIfInBounds_toArray, List.set_cons_succ, List.set_cons_zero, World.drewN_drewN])))); try simp only [h1, h2]))
  go_ret
  exact ⟨rfl, (by repeat (first | exact Dr.refl _ | apply Dr.drewN))⟩
theorem iAngleOf_any (x X y Y : Nat) (hx : Is .f32 x X) (hy : Is .f32 y Y) (w : World) : Calls Try.prog 7 #[.complex .f32 x y] w (FRet .f32 (angN Y X) w) := by
  go_enter Try.func7, Try.ntmps7
  go_wp2_with fail
  refine (iAngleTurns_any _ _ _ _ hy hx _).mono ?_
  rintro e w' ⟨r, rfl, hr, nd, rfl⟩
  go_wp2_with fail
  go_ret
  exact ⟨_, rfl, hr, (by repeat (first | exact Dr.refl _ | apply Dr.drewN))⟩
end Go.Proofs.Ytianaalokclklaa
end

/-
  TENTHS OF DECIBELS OF PRODUCTS: what the kernel has checked, said of the numbers. (No program here.)
-/
section
set_option exponentiation.threshold 5000
set_option linter.unusedVariables false
set_option linter.unusedSimpArgs false
namespace Go.Fl
open Go Ieee

/-- an eighth times 'i' -/
def e32 (i : Nat) : Nat := fop .quo .f32 (floatOfInt .f32 (i : Int)) 1090519040
theorem e32_all : (List.range 200).all (fun i => decide (e32 (i + 1) < 2139095040) && Nat.beq (rv Ieee.single (e32 (i + 1))) ((i + 1) * 2 ^ 146)) = true := by decide +kernel
theorem e32_at {i : Nat} (h1 : 1 ≤ i) (h2 : i ≤ 200) : P32 (e32 i) (i * 2 ^ 146) := by
  have := List.all_eq_true.1 e32_all (i - 1) (List.mem_range.2 (by omega))
  rw [Nat.sub_add_cancel h1, Bool.and_eq_true, decide_eq_true_eq] at this
  exact ⟨this.1, Nat.eq_of_beq_eq_true this.2⟩
theorem e32_D {i : Nat} (h1 : 1 ≤ i) (h2 : i ≤ 200) : D64 (wid (e32 i)) (8 * i) := by
  have h := e32_at h1 h2
  refine P32.wid (Z := e32 i) ⟨h.1, ?_⟩
  rw [h.2]
  have e : (2 : Nat) ^ 146 = 8 * 2 ^ 143 := by rw [show 146 = 3 + 143 from rfl, Nat.pow_add]
  rw [e]
  ac_rfl
theorem ten8 {i : Nat} (h1 : 1 ≤ i) (h2 : i ≤ 200) : tenW (wid (e32 i)) = (t8.getD i 0 : Int) - 100 := by
  have := List.all_eq_true.1 t8_all (i - 1) (List.mem_range.2 (by omega))
  rw [Nat.sub_add_cancel h1] at this
  unfold chkT8 at this
  rw [Bool.and_eq_true, Bool.and_eq_true, Bool.and_eq_true, decide_eq_true_eq] at this
  obtain ⟨⟨⟨k1, k2⟩, k3⟩, k4⟩ := this
  have k3' : dni (wdq (8 * i)) + 8 - upj (wdq (8 * i)) < 20 := Nat.blt_eq.mp k3
  obtain ⟨q1, q2⟩ := ten_q (v := 0) k1 (by omega)
  have e : wid (e32 i) = wdq (8 * i) + 0 * 4503599627370496 := (e32_D h1 h2).same (by rw [Nat.pow_zero, Nat.mul_one] at q1; exact q1)
  rw [e, q2, Nat.add_zero]
  exact k4
theorem rows_ok {n : Nat} (h : n < 100) : chkRow n = true := by
  have key : ∀ {lo len : Nat}, chkRows lo len = true → lo ≤ n → n < lo + len → chkRow n = true := by
    intro lo len hc g1 g2
    have := List.all_eq_true.1 hc (n - lo) (List.mem_range.2 (by omega))
    rw [Nat.add_sub_cancel' g1] at this
    exact this
  rcases Nat.lt_or_ge n 10 with g | g
  · exact key rows_0 (by omega) (by omega)
  rcases Nat.lt_or_ge n 16 with g | g
  · exact key rows_10 (by omega) (by omega)
  rcases Nat.lt_or_ge n 21 with g | g
  · exact key rows_16 (by omega) (by omega)
  rcases Nat.lt_or_ge n 25 with g | g
  · exact key rows_21 (by omega) (by omega)
  rcases Nat.lt_or_ge n 30 with g | g
  · exact key rows_25 (by omega) (by omega)
  rcases Nat.lt_or_ge n 34 with g | g
  · exact key rows_30 (by omega) (by omega)
  rcases Nat.lt_or_ge n 38 with g | g
  · exact key rows_34 (by omega) (by omega)
  rcases Nat.lt_or_ge n 42 with g | g
  · exact key rows_38 (by omega) (by omega)
  rcases Nat.lt_or_ge n 45 with g | g
  · exact key rows_42 (by omega) (by omega)
  rcases Nat.lt_or_ge n 48 with g | g
  · exact key rows_45 (by omega) (by omega)
  rcases Nat.lt_or_ge n 51 with g | g
  · exact key rows_48 (by omega) (by omega)
  rcases Nat.lt_or_ge n 55 with g | g
  · exact key rows_51 (by omega) (by omega)
  rcases Nat.lt_or_ge n 59 with g | g
  · exact key rows_55 (by omega) (by omega)
  rcases Nat.lt_or_ge n 63 with g | g
  · exact key rows_59 (by omega) (by omega)
  rcases Nat.lt_or_ge n 66 with g | g
  · exact key rows_63 (by omega) (by omega)
  rcases Nat.lt_or_ge n 69 with g | g
  · exact key rows_66 (by omega) (by omega)
  rcases Nat.lt_or_ge n 72 with g | g
  · exact key rows_69 (by omega) (by omega)
  rcases Nat.lt_or_ge n 75 with g | g
  · exact key rows_72 (by omega) (by omega)
  rcases Nat.lt_or_ge n 78 with g | g
  · exact key rows_75 (by omega) (by omega)
  rcases Nat.lt_or_ge n 81 with g | g
  · exact key rows_78 (by omega) (by omega)
  rcases Nat.lt_or_ge n 84 with g | g
  · exact key rows_81 (by omega) (by omega)
  rcases Nat.lt_or_ge n 87 with g | g
  · exact key rows_84 (by omega) (by omega)
  rcases Nat.lt_or_ge n 90 with g | g
  · exact key rows_87 (by omega) (by omega)
  rcases Nat.lt_or_ge n 93 with g | g
  · exact key rows_90 (by omega) (by omega)
  rcases Nat.lt_or_ge n 96 with g | g
  · exact key rows_93 (by omega) (by omega)
  rcases Nat.lt_or_ge n 99 with g | g
  · exact key rows_96 (by omega) (by omega)
  exact key rows_99 (by omega) (by omega)
theorem dec200 : ∀ i : Fin 200, ∃ n : Fin 100, ∃ p : Fin 8, i.val + 1 = (2 * n.val + 1) * 2 ^ p.val := by decide +kernel
theorem split200 {i : Nat} (h1 : 1 ≤ i) (h2 : i ≤ 200) : ∃ n p : Nat, n < 100 ∧ p < 8 ∧ i = (2 * n + 1) * 2 ^ p := by
  obtain ⟨n, p, h⟩ := dec200 ⟨i - 1, by omega⟩
  exact ⟨n.val, p.val, n.isLt, p.isLt, by have h' : i - 1 + 1 = _ := h; omega⟩
theorem mul32_comm (X Y : Nat) : fop .mul .f32 X Y = fop .mul .f32 Y X := by
  have : floatBits .mul .f32 X Y = floatBits .mul .f32 Y X := by
    show ((Ieee.single.read X).product (Ieee.single.read Y)).map Ieee.single.write = ((Ieee.single.read Y).product (Ieee.single.read X)).map Ieee.single.write
    congr 1
    cases Ieee.single.read X <;> cases Ieee.single.read Y <;> simp [Datum.product, Bool.xor_comm, Nat.mul_comm, Int.add_comm]
  unfold fop
  rw [this]
theorem chk_at {n m : Nat} (hn : n < 100) (hm : m ≤ n) : chkAB (2 * n + 1) (2 * m + 1) = true :=
  List.all_eq_true.1 (rows_ok hn) m (List.mem_range.2 (by omega))
theorem chkV_at {S x a b p q : Nat} (h : chkV S x a b = true) (hp : p < 8) (hq : q < 8) :
    (Nat.blt 200 (a * 2 ^ p) || Nat.blt 200 (b * 2 ^ q) || (Nat.blt (x + (p + q)) 20 && nearT (t8.getD (a * 2 ^ p) 0 + t8.getD (b * 2 ^ q) 0) (qT S (x + (p + q))))) = true := by
  unfold chkV at h
  exact List.all_eq_true.1 (List.all_eq_true.1 h p (List.mem_range.2 hp)) q (List.mem_range.2 hq)
theorem blt_no {i : Nat} (h : i ≤ 200) : Nat.blt 200 i = false := by
  cases hb : Nat.blt 200 i with
  | false => rfl
  | true => have : 200 < i := Nat.blt_eq.mp hb; omega
theorem chk_split {a b p q : Nat} (h : chkAB a b = true) (hp : p < 8) (hq : q < 8) (h1 : a * 2 ^ p ≤ 200) (h2 : b * 2 ^ q ≤ 200) :
    okD (a * b) = true ∧ dni (wdq (a * b)) + (p + q) + 8 - upj (wdq (a * b)) < 20 ∧
    nearT (t8.getD (a * 2 ^ p) 0 + t8.getD (b * 2 ^ q) 0) (qT (qS (znq (wdq (a * b)))) (dni (wdq (a * b)) + (p + q) + 8 - upj (wdq (a * b)))) = true := by
  unfold chkAB at h
  rw [Bool.and_eq_true, Bool.and_eq_true] at h
  obtain ⟨⟨k1, k2⟩, k3⟩ := h
  have k2 := Nat.le_of_ble_eq_true k2
  have hv := chkV_at k3 hp hq
  rw [blt_no h1, blt_no h2, Bool.false_or, Bool.false_or, Bool.and_eq_true] at hv
  obtain ⟨v1, v2⟩ := hv
  have v1 := Nat.blt_eq.mp v1
  have hx : dni (wdq (a * b)) + 8 - upj (wdq (a * b)) + (p + q) = dni (wdq (a * b)) + (p + q) + 8 - upj (wdq (a * b)) := by omega
  rw [hx] at v1 v2
  exact ⟨k1, v1, v2⟩
theorem near_at {A : Nat} {t : Int} (h : nearT A t = true) : (A : Int) ≤ t + 201 ∧ t + 199 ≤ (A : Int) := by
  unfold nearT at h
  rw [Bool.and_eq_true, decide_eq_true_eq, decide_eq_true_eq] at h
  exact h
/-- the tenths of a product are those of both, but for one -/
theorem ten_core {a b p q i j : Nat} (h : chkAB a b = true) (hp : p < 8) (hq : q < 8) (hi : a * 2 ^ p = i) (hj : b * 2 ^ q = j) (hi1 : 1 ≤ i) (h1 : i ≤ 200) (hj1 : 1 ≤ j) (h2 : j ≤ 200) :
    0 < fop .mul .f32 (e32 i) (e32 j) ∧ fop .mul .f32 (e32 i) (e32 j) < 2139095040 ∧
    tenW (wid (e32 i)) + tenW (wid (e32 j)) - tenW (wid (fop .mul .f32 (e32 i) (e32 j))) ≤ 1 ∧
    tenW (wid (fop .mul .f32 (e32 i) (e32 j))) - tenW (wid (e32 i)) - tenW (wid (e32 j)) ≤ 1 := by
  obtain ⟨k1, k2, k3⟩ := chk_split h hp hq (by omega) (by omega)
  have hij : a * b * 2 ^ (p + q) = i * j := by rw [← hi, ← hj, Nat.pow_add]; ac_rfl
  rw [hi, hj] at k3
  obtain ⟨o, ho⟩ : ∃ o, o = a * b := ⟨_, rfl⟩
  rw [← ho] at k1 k2 k3 hij
  obtain ⟨q1, q2⟩ := ten_q (v := p + q) k1 k2
  rw [hij] at q1
  have hb : i * j ≤ 200 * 200 := Nat.mul_le_mul h1 h2
  have hz := (e32_at hi1 h1).mul (e32_at hj1 h2) (by omega)
  obtain ⟨Z, hZ⟩ : ∃ Z, Z = fop .mul .f32 (e32 i) (e32 j) := ⟨_, rfl⟩
  rw [← hZ] at hz ⊢
  have e := hz.wid.same q1
  rw [e, q2, ten8 hi1 h1, ten8 hj1 h2]
  obtain ⟨v3, v4⟩ := near_at k3
  obtain ⟨T, hT⟩ : ∃ T, T = qT (qS (znq (wdq o))) (dni (wdq o) + (p + q) + 8 - upj (wdq o)) := ⟨_, rfl⟩
  rw [← hT] at v3 v4 ⊢
  refine ⟨?_, hz.1, by omega, by omega⟩
  rcases Nat.eq_zero_or_pos Z with g | g
  · have h0 := hz.2
    rw [g] at h0
    have : rv Ieee.single 0 = 0 := by decide +kernel
    rw [this] at h0
    have := Nat.mul_pos (Nat.mul_pos hi1 hj1) (Nat.two_pow_pos 143)
    omega
  · exact g
theorem ten_prod {i j : Nat} (hi1 : 1 ≤ i) (hi2 : i ≤ 200) (hj1 : 1 ≤ j) (hj2 : j ≤ 200) :
    0 < fop .mul .f32 (e32 i) (e32 j) ∧ fop .mul .f32 (e32 i) (e32 j) < 2139095040 ∧
    tenW (wid (e32 i)) + tenW (wid (e32 j)) - tenW (wid (fop .mul .f32 (e32 i) (e32 j))) ≤ 1 ∧
    tenW (wid (fop .mul .f32 (e32 i) (e32 j))) - tenW (wid (e32 i)) - tenW (wid (e32 j)) ≤ 1 := by
  obtain ⟨n, p, n1, n2, e1⟩ := split200 hi1 hi2
  obtain ⟨m, q, m1, m2, e2⟩ := split200 hj1 hj2
  rcases Nat.le_total m n with g | g
  · exact ten_core (chk_at n1 g) n2 m2 e1.symm e2.symm hi1 hi2 hj1 hj2
  · obtain ⟨a, b, c, d⟩ := ten_core (chk_at m1 g) m2 n2 e2.symm e1.symm hj1 hj2 hi1 hi2
    rw [mul32_comm]
    exact ⟨a, b, by omega, by omega⟩
theorem e32_pos {i : Nat} (h1 : 1 ≤ i) (h2 : i ≤ 200) : 0 < e32 i ∧ e32 i < 2139095040 := by
  have h := e32_at h1 h2
  refine ⟨?_, h.1⟩
  rcases Nat.eq_zero_or_pos (e32 i) with g | g
  · have h0 := h.2
    rw [g] at h0
    have : rv Ieee.single 0 = 0 := by decide +kernel
    rw [this] at h0
    have := Nat.mul_pos h1 (Nat.two_pow_pos 146)
    omega
  · exact g
theorem ten_one : tenW (wid 1065353216) = 0 := by decide +kernel
end Go.Fl
end

/-
  CIRCLES: what the tables say of two numbers of turns. (No program here.)
-/
section
set_option exponentiation.threshold 5000
set_option linter.unusedVariables false
set_option linter.unusedSimpArgs false
namespace Go.Fl
open Go Ieee

theorem tab_at {n : Nat} (h : n < 64) : ((phF (twa (n : Int)) = (pRe.getD n 0, pIm.getD n 0) ∧ wid (pRe.getD n 0) = wRe.getD n 0) ∧ wid (pIm.getD n 0) = wIm.getD n 0) ∧ fop .mul .f64 (wid (angN (pIm.getD n 0) (pRe.getD n 0))) c64 = aT.getD n 0 := by
  have := List.all_eq_true.1 tab_ok n (List.mem_range.2 h)
  rw [Bool.and_eq_true, Bool.and_eq_true, Bool.and_eq_true, beq_iff_eq, beq_iff_eq, beq_iff_eq, beq_iff_eq] at this
  exact this
theorem ph_at {i : Nat} (h : i < 512) : phasor (twa ((i : Int) - 256)) = (pRe.getD (i % 64) 0, pIm.getD (i % 64) 0) := by
  have := List.all_eq_true.1 frac_ok i (List.mem_range.2 h)
  rw [Bool.and_eq_true, Bool.and_eq_true, Bool.and_eq_true, beq_iff_eq, beq_iff_eq, decide_eq_true_eq] at this
  obtain ⟨⟨⟨f1, f2⟩, f3⟩, f4⟩ := this
  rw [phasor_frac f3 f4, f1]
  exact (tab_at (Nat.mod_lt _ (by omega))).1.1.1
theorem noOv_some {X : Nat} (h : (floatToFloatBits .f64 X .f32).isSome = true) : NoOv X := .inr h
theorem one_at {n : Nat} (h : n < 64) : NoOv (powQ n) ∧ fgt .f64 (gapG (wid (nar (powQ n))) 4607182418800017408) 4547007122018943789 = false := by
  have := List.all_eq_true.1 one_all n (List.mem_range.2 h)
  unfold oneB at this
  rw [Bool.and_eq_true, Bool.not_eq_true'] at this
  exact ⟨noOv_some this.1, this.2⟩
theorem pairs_at {n m : Nat} (hn : n < 64) (hm : m < 64) : pairB n m = true := by
  have key : ∀ {lo : Nat}, pairs64 lo = true → lo ≤ n → n < lo + 16 → pairB n m = true := by
    intro lo hc g1 g2
    have := List.all_eq_true.1 (List.all_eq_true.1 hc (n - lo) (List.mem_range.2 (by omega))) m (List.mem_range.2 hm)
    rw [Nat.add_sub_cancel' g1] at this
    exact this
  rcases Nat.lt_or_ge n 16 with g | g
  · exact key pairs_1 (by omega) (by omega)
  rcases Nat.lt_or_ge n 32 with g2 | g2
  · exact key pairs_2 (by omega) (by omega)
  rcases Nat.lt_or_ge n 48 with g3 | g3
  · exact key pairs_3 (by omega) (by omega)
  · exact key pairs_4 (by omega) (by omega)
theorem pair_at {n m : Nat} (hn : n < 64) (hm : m < 64) : ((NoOv (prRq n m) ∧ NoOv (prIq n m)) ∧ fle .f64 (gapG (wid (nar (prRq n m))) (wRe.getD ((n + m) % 64) 0)) 4547007122018943789 = true) ∧ fle .f64 (gapG (wid (nar (prIq n m))) (wIm.getD ((n + m) % 64) 0)) 4547007122018943789 = true := by
  have := pairs_at hn hm
  unfold pairB nearB at this
  rw [Bool.and_eq_true, Bool.and_eq_true, Bool.and_eq_true] at this
  exact ⟨⟨⟨noOv_some this.1.1.1, noOv_some this.1.1.2⟩, this.1.2⟩, this.2⟩
theorem bdB_at {X : Nat} (h : bdB X = true) : Bd X 1100 := by
  unfold bdB at h
  rw [Bool.and_eq_true, Bool.and_eq_true, decide_eq_true_eq, decide_eq_true_eq, decide_eq_true_eq] at h
  exact ⟨h.1.1, by unfold Fin64; exact h.1.2, h.2⟩
theorem ang_at {i : Nat} (h : i < 256) : Bd (fop .add .f64 (trn i) 4666723447345250304) 1100 ∧ (0 ≤ whl i ∧ whl i ≤ 30000) ∧ fgt .f64 (gapG (trn i) (floatOfInt .f64 (whl i - 10000))) 4562254508917369340 = false ∧ Int.tmod (whl i - 10000) 64 = 0 ∧
    (¬ Int.tmod ((i : Int) - 128) 16 = 0 ∨ feq .f64 (gapG (wRe.getD (i % 64) 0) 0) 0 = true ∨ feq .f64 (gapG (wRe.getD (i % 64) 0) 0) 4607182418800017408 = true) := by
  have := List.all_eq_true.1 ang_all i (List.mem_range.2 h)
  unfold angB at this
  rw [Bool.and_eq_true, Bool.and_eq_true, Bool.and_eq_true, Bool.and_eq_true, Bool.and_eq_true, Bool.or_eq_true, Bool.or_eq_true, Bool.not_eq_true', decide_eq_true_eq, decide_eq_true_eq, decide_eq_true_eq, decide_eq_true_eq] at this
  obtain ⟨⟨⟨⟨⟨k1, k2⟩, k3⟩, k4⟩, k5⟩, k6⟩ := this
  refine ⟨bdB_at k1, ⟨k2, k3⟩, k4, k5, ?_⟩
  rcases k6 with (g | g) | g
  · exact .inl g
  · exact .inr (.inl g)
  · exact .inr (.inr g)
/-- of two numbers of turns: all that the law asks -/
structure Circ (r s PR PI QR QI RR RI NP MR MI TU : Nat) (W : Int) : Prop where
  php : phasor (twa ((r : Int) - 128)) = (PR, PI)
  phq : phasor (twa ((s : Int) - 128)) = (QR, QI)
  phr : phasor (twa ((r : Int) - 128 + ((s : Int) - 128))) = (RR, RI)
  np : NoOv (fop .add .f64 (fop .mul .f64 (wid PR) (wid PR)) (fop .mul .f64 (wid PI) (wid PI)))
  ep : nar (fop .add .f64 (fop .mul .f64 (wid PR) (wid PR)) (fop .mul .f64 (wid PI) (wid PI))) = NP
  gp : fgt .f64 (gapG (wid NP) 4607182418800017408) 4547007122018943789 = false
  n1 : NoOv (fop .sub .f64 (fop .mul .f64 (wid PR) (wid QR)) (fop .mul .f64 (wid PI) (wid QI)))
  n2 : NoOv (fop .add .f64 (fop .mul .f64 (wid PR) (wid QI)) (fop .mul .f64 (wid PI) (wid QR)))
  e1 : nar (fop .sub .f64 (fop .mul .f64 (wid PR) (wid QR)) (fop .mul .f64 (wid PI) (wid QI))) = MR
  e2 : nar (fop .add .f64 (fop .mul .f64 (wid PR) (wid QI)) (fop .mul .f64 (wid PI) (wid QR))) = MI
  g1 : fle .f64 (gapG (wid MR) (wid RR)) 4547007122018943789 = true
  g2 : fle .f64 (gapG (wid MI) (wid RI)) 4547007122018943789 = true
  tu : fop .sub .f64 (fop .mul .f64 (wid (angN PI PR)) 4634204016564240384) (floatOfInt .f64 ((r : Int) - 128)) = TU
  bd : Bd (fop .add .f64 TU 4666723447345250304) 1100
  wh : toI (fop .add .f64 TU 4666723447345250304) = W
  w0 : 0 ≤ W
  w1 : W ≤ 30000
  gw : fgt .f64 (gapG TU (floatOfInt .f64 (W - 10000))) 4562254508917369340 = false
  mw : Int.tmod (W - 10000) 64 = 0
  qu : ¬ Int.tmod ((r : Int) - 128) 16 = 0 ∨ feq .f64 (gapG (wid PR) 0) 0 = true ∨ feq .f64 (gapG (wid PR) 0) 4607182418800017408 = true
theorem circ {r s : Nat} (hr : r < 256) (hs : s < 256) : ∃ PR PI QR QI RR RI NP MR MI TU W, Circ r s PR PI QR QI RR RI NP MR MI TU W := by
  have hn : r % 64 < 64 := Nat.mod_lt _ (by omega)
  have hm : s % 64 < 64 := Nat.mod_lt _ (by omega)
  have ho : (r % 64 + s % 64) % 64 < 64 := Nat.mod_lt _ (by omega)
  obtain ⟨⟨⟨_, a1⟩, a2⟩, a3⟩ := tab_at hn
  obtain ⟨⟨⟨_, b1⟩, b2⟩, _⟩ := tab_at hm
  obtain ⟨⟨⟨_, c1⟩, c2⟩, _⟩ := tab_at ho
  obtain ⟨o1, o2⟩ := one_at hn
  obtain ⟨⟨⟨p1, p2⟩, p3⟩, p4⟩ := pair_at hn hm
  obtain ⟨q1, ⟨q2, q3⟩, q4, q5, q6⟩ := ang_at hr
  have hp : fop .add .f64 (fop .mul .f64 (wid (pRe.getD (r % 64) 0)) (wid (pRe.getD (r % 64) 0))) (fop .mul .f64 (wid (pIm.getD (r % 64) 0)) (wid (pIm.getD (r % 64) 0))) = powQ (r % 64) := by
    rw [a1, a2, qmul_eq, qmul_eq, qadd_eq]; unfold powQ; rfl
  have hm1 : fop .sub .f64 (fop .mul .f64 (wid (pRe.getD (r % 64) 0)) (wid (pRe.getD (s % 64) 0))) (fop .mul .f64 (wid (pIm.getD (r % 64) 0)) (wid (pIm.getD (s % 64) 0))) = prRq (r % 64) (s % 64) := by
    rw [a1, a2, b1, b2, qmul_eq, qmul_eq, qsub_eq]; unfold prRq; rfl
  have hm2 : fop .add .f64 (fop .mul .f64 (wid (pRe.getD (r % 64) 0)) (wid (pIm.getD (s % 64) 0))) (fop .mul .f64 (wid (pIm.getD (r % 64) 0)) (wid (pRe.getD (s % 64) 0))) = prIq (r % 64) (s % 64) := by
    rw [a1, a2, b1, b2, qmul_eq, qmul_eq, qadd_eq]; unfold prIq; rfl
  have ht : fop .sub .f64 (fop .mul .f64 (wid (angN (pIm.getD (r % 64) 0) (pRe.getD (r % 64) 0))) 4634204016564240384) (floatOfInt .f64 ((r : Int) - 128)) = trn r := by
    have h := a3
    unfold c64 at h
    rw [h]; unfold trn; rfl
  have e1 : ((r : Int) - 128) = ((r + 128 : Nat) : Int) - 256 := by omega
  have e2 : ((s : Int) - 128) = ((s + 128 : Nat) : Int) - 256 := by omega
  have e3 : ((r : Int) - 128) + ((s : Int) - 128) = ((r + s : Nat) : Int) - 256 := by omega
  have f1 : (r + 128) % 64 = r % 64 := by omega
  have f2 : (s + 128) % 64 = s % 64 := by omega
  have f3 : (r + s) % 64 = (r % 64 + s % 64) % 64 := by omega
  have k1 := ph_at (i := r + 128) (by omega)
  have k2 := ph_at (i := s + 128) (by omega)
  have k3 := ph_at (i := r + s) (by omega)
  rw [← e1, f1] at k1
  rw [← e2, f2] at k2
  rw [← e3, f3] at k3
  refine ⟨pRe.getD (r % 64) 0, pIm.getD (r % 64) 0, pRe.getD (s % 64) 0, pIm.getD (s % 64) 0, pRe.getD ((r % 64 + s % 64) % 64) 0, pIm.getD ((r % 64 + s % 64) % 64) 0, nar (powQ (r % 64)), nar (prRq (r % 64) (s % 64)), nar (prIq (r % 64) (s % 64)), trn r, whl r,
    ⟨k1, k2, k3, ?_, ?_, o2, ?_, ?_, ?_, ?_, ?_, ?_, ht, q1, ?_, q2, q3, q4, q5, ?_⟩⟩
  · rw [hp]; exact o1
  · rw [hp]
  · rw [hm1]; exact p1
  · rw [hm2]; exact p2
  · rw [hm1]
  · rw [hm2]
  · rw [c1]; exact p3
  · rw [c2]; exact p4
  · unfold whl; rfl
  · rw [a1]; exact q6
/-! ### tenths -/
theorem t8_le : ∀ i : Fin 201, t8.getD i.val 0 ≤ 300 := by decide +kernel
/-- of two eighths: all that the law asks of tenths -/
structure Tens (i j M : Nat) (a b c : Int) : Prop where
  x1 : 0 < e32 i
  x2 : e32 i < 2139095040
  y1 : 0 < e32 j
  y2 : e32 j < 2139095040
  em : fop .mul .f32 (e32 i) (e32 j) = M
  m1 : 0 < M
  m2 : M < 2139095040
  ta : tenW (wid (e32 i)) = a
  tb : tenW (wid (e32 j)) = b
  tc : tenW (wid M) = c
  a1 : -1000 ≤ a
  a2 : a ≤ 1000
  b1 : -1000 ≤ b
  b2 : b ≤ 1000
  c1 : a + b - c ≤ 1
  c2 : c - a - b ≤ 1
theorem tens {i j : Nat} (hi1 : 1 ≤ i) (hi2 : i ≤ 200) (hj1 : 1 ≤ j) (hj2 : j ≤ 200) : ∃ M a b c, Tens i j M a b c := by
  obtain ⟨p1, p2, p3, p4⟩ := ten_prod hi1 hi2 hj1 hj2
  have h1 := ten8 hi1 hi2
  have h2 := ten8 hj1 hj2
  have l1 : t8.getD i 0 ≤ 300 := t8_le ⟨i, by omega⟩
  have l2 : t8.getD j 0 ≤ 300 := t8_le ⟨j, by omega⟩
  exact ⟨_, _, _, _, (e32_pos hi1 hi2).1, (e32_pos hi1 hi2).2, (e32_pos hj1 hj2).1, (e32_pos hj1 hj2).2, rfl, p1, p2, rfl, rfl, rfl, by omega, by omega, by omega, by omega, p3, p4⟩
theorem angle_up : (angN 1065353216 0 == 0) = false := by decide +kernel
end Go.Fl
end
