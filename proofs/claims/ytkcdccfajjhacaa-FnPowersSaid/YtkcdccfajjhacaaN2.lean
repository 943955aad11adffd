/-
  CONTRACTS: Go's math on 64-bit words: Signbit, Abs; sameness; subnormal numbers; from bits.
-/
import Derived.Test.YtkcdccfajjhacaaN1
import Derived.Test.YtkcdccfajjhacaaLaw1
import Derived.Lib.Hide
set_option linter.unusedSimpArgs false
namespace Go.Proofs.Ytkcdccfajjhacaa
open Go.RowKit Go.Fl

theorem is_of_num {k : FloatKind} {x X : Nat} (h : Is k x X) (hn : isn k X = false) : x = X := by
  have h1 : isn k x = false := by rw [← isn_cn, h.2]; exact hn
  rw [← h.2, cn_of_not h1]

theorem Abs_any (x : Nat) (hx : (x : Int) ≤ 18446744073709551615) (w : World) : Calls Try.prog 64 #[.float .f64 x] w fun e w' => e = .returned (.float .f64 (x % 9223372036854775808)) ∧ w = w' := by
  have e : (bits BinOp.andNot IntKind.u64 (x : Int) 9223372036854775808).toNat = x % 9223372036854775808 := by
    have h := u64_andNot_nat x 9223372036854775808 (by omega) (by omega)
    rw [show ((9223372036854775808 : Nat) : Int) = 9223372036854775808 from rfl] at h
    rw [h, Int.toNat_natCast]
    exact Nat.and_two_pow_sub_one_eq_mod x 63
  go_enter Try.func64, Try.ntmps64
  go_wp2
  go_ret
  exact ⟨rfl, rfl⟩
theorem same3 {x X y Y r s : Nat} (hx : Is .f32 x X) (hy : Is .f32 y Y) (hr : Is .f64 r (wid X)) (hs : Is .f64 s (wid Y)) (h1 : ¬ fne .f32 X X = true) (h2 : fne .f32 Y Y = false) (h3 : feq .f32 X Y = true) :
    (decide (9223372036854775808 ≤ r) == decide (9223372036854775808 ≤ s)) = (X == Y) := by
  have n1 : isn .f32 X = false := num_of_fne (by simpa using h1)
  have n2 : isn .f32 Y = false := num_of_fne h2
  have l := same_law hx.can hy.can n1 n2
  rw [h3, Bool.true_and] at l
  rw [is_of_num hr (wid_num (can32_lt hx.can) n1), is_of_num hs (wid_num (can32_lt hy.can) n2)]
  exact l
theorem same4 {X Y : Nat} (h1 : ¬ fne .f32 X X = true) (_h2 : fne .f32 Y Y = false) (h3 : ¬ feq .f32 X Y = true) : false = (X == Y) := by
  symm
  rw [beq_eq_false_iff_ne]
  rintro rfl
  exact h3 ((feq_iff _ _ _).2 ⟨num_of_fne (by simpa using h1), num_of_fne (by simpa using h1), rfl⟩)
theorem Absf_any (x X : Nat) (hx : Is .f64 x X) (w : World) : Calls Try.prog 64 #[.float .f64 x] w fun e w' => ∃ r, e = .returned (.float .f64 r) ∧ Is .f64 r (fabs X) ∧ w = w' :=
  (Abs_any x (is64_le hx) w).mono fun _ _ ⟨he, hw⟩ => ⟨_, he, fabs_is hx, hw⟩
theorem ret_t2 {k : FloatKind} {r r' : Nat} {b b' : Bool} (h : r = r') (g : b = b') : Ending.returned (.tuple #[.float k r, .bool b]) = .returned (.tuple #[.float k r', .bool b']) := by rw [h, g]
def bitsOk (n : Int) : Bool := decide (0 ≤ n) && decide (n ≤ 4294967295)
def FBpost (n : Int) (w : World) (e : Ending) (w' : World) : Prop := e = .returned (.tuple #[.float .f32 (if bitsOk n then n.toNat else 0), .bool (bitsOk n)]) ∧ w = w'
def subn (X : Nat) : Bool := fne .f32 X 0 && decide (X &&& 2139095040 = 0)
set_option maxHeartbeats 400000 in
theorem iIsSubnormal_any (x X : Nat) (hx : Is .f32 x X) (w : World) : Calls Try.prog 52 #[.float .f32 x] w (VRet (.bool (subn X)) w) := by
  go_enter Try.func52, Try.ntmps52
  go_wp2_with (first | (go_at_call 64; refine (Absf_any _ _ (by assumption) _).mono ?_; rintro e w' ⟨r, rfl, hr, rfl⟩) | ((with_reducible refine wpList_here ?_); (first | ((with_reducible refine wpList_feq (k := ?_) (bx := ?_) (by' := ?_) (X := ?_) (Y := ?_) ?_ ?_ ?_ ?_ ?_ ?_); rotate_left 5; (first | (with_reducible exact wanted_none) | ((with_reducible refine wanted_some ?_); rfl)); (rfl); (rfl); (first | assumption | ((refine Is.lit ?_); decide +kernel) | (refine Is.ofInt _ _)); (first | assumption | ((refine Is.lit ?_); decide +kernel) | (refine Is.ofInt _ _)); (try simp only [Act.put, List.setIfInBounds_toArray, List.set_cons_succ, List.set_cons_zero, World.drewN_drewN])) | ((with_reducible refine wpList_fne (k := ?_) (bx := ?_) (by' := ?_) (X := ?_) (Y := ?_) ?_ ?_ ?_ ?_ ?_ ?_); rotate_left 5; (first | (with_reducible exact wanted_none) | ((with_reducible refine wanted_some ?_); rfl)); (rfl); (rfl); (first | assumption | ((refine Is.lit ?_); decide +kernel) | (refine Is.ofInt _ _)); (first | assumption | ((refine Is.lit ?_); decide +kernel) | (refine Is.ofInt _ _)); (try simp only [Act.put, List.setIfInBounds_toArray, List.set_cons_succ, List.set_cons_zero, World.drewN_drewN])) | ((with_reducible refine wpList_flt (k := ?_) (bx := ?_) (by' := ?_) (X := ?_) (Y := ?_) ?_ ?_ ?_ ?_ ?_ ?_); rotate_left 5; (first | (with_reducible exact wanted_none) | ((with_reducible refine wanted_some ?_); rfl)); (rfl); (rfl); (first | assumption | ((refine Is.lit ?_); decide +kernel) | (refine Is.ofInt _ _)); (first | assumption | ((refine Is.lit ?_); decide +kernel) | (refine Is.ofInt _ _)); (try simp only [Act.put, List.setIfInBounds_toArray, List.set_cons_succ, List.set_cons_zero, World.drewN_drewN])) | ((with_reducible refine wpList_fle (k := ?_) (bx := ?_) (by' := ?_) (X := ?_) (Y := ?_) ?_ ?_ ?_ ?_ ?_ ?_); rotate_left 5; (first | (with_reducible exact wanted_none) | ((with_reducible refine wanted_some ?_); rfl)); (rfl); (rfl); (first | assumption | ((refine Is.lit ?_); decide +kernel) | (refine Is.ofInt _ _)); (first | assumption | ((refine Is.lit ?_); decide +kernel) | (refine Is.ofInt _ _)); (try simp only [Act.put, List.setIfInBounds_toArray, List.set_cons_succ, List.set_cons_zero, World.drewN_drewN])) | ((with_reducible refine wpList_fgt (k := ?_) (bx := ?_) (by' := ?_) (X := ?_) (Y := ?_) ?_ ?_ ?_ ?_ ?_ ?_); rotate_left 5; (first | (with_reducible exact wanted_none) | ((with_reducible refine wanted_some ?_); rfl)); (rfl); (rfl); (first | assumption | ((refine Is.lit ?_); decide +kernel) | (refine Is.ofInt _ _)); (first | assumption | ((refine Is.lit ?_); decide +kernel) | (refine Is.ofInt _ _)); (try simp only [Act.put, List.setIfInBounds_toArray, List.set_cons_succ, List.set_cons_zero, World.drewN_drewN])) | ((with_reducible refine wpList_fge (k := ?_) (bx := ?_) (by' := ?_) (X := ?_) (Y := ?_) ?_ ?_ ?_ ?_ ?_ ?_); rotate_left 5; (first | (with_reducible exact wanted_none) | ((with_reducible refine wanted_some ?_); rfl)); (rfl); (rfl); (first | assumption | ((refine Is.lit ?_); decide +kernel) | (refine Is.ofInt _ _)); (first | assumption | ((refine Is.lit ?_); decide +kernel) | (refine Is.ofInt _ _)); (try simp only [Act.put, List.setIfInBounds_toArray, List.set_cons_succ, List.set_cons_zero, World.drewN_drewN])) | ((with_reducible refine wpList_widen Try.underlying25 Try.underlying29 (bx := ?_) (X := ?_) ?_ ?_ ?_ ?_); rotate_left 2; (first | (with_reducible exact wanted_none) | ((with_reducible refine wanted_some ?_); rfl)); (rfl); (first | assumption | ((refine Is.lit ?_); decide +kernel) | (refine Is.ofInt _ _)); (intro r nd hr); (try simp only [Act.put, List.setIfInBounds_toArray, List.set_cons_succ, List.set_cons_zero, World.drewN_drewN])))))
  all_goals go_ret
  · exact ⟨ret_bool (by unfold subn; rw [show fne .f32 X 0 = true by assumption, Bool.true_and, subnormal_law hx.can]), (by repeat (first | exact Dr.refl _ | apply Dr.drewN))⟩
  · exact ⟨ret_bool (by unfold subn; rw [show fne .f32 X 0 = false by simpa using (show ¬ fne .f32 X 0 = true by assumption), Bool.false_and]), (by repeat (first | exact Dr.refl _ | apply Dr.drewN))⟩
end Go.Proofs.Ytkcdccfajjhacaa
