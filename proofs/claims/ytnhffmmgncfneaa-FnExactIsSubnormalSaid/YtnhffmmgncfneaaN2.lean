/-
  CONTRACTS: Go's math on 64-bit words: Signbit, Abs; sameness; subnormal numbers; from bits.
-/
import Derived.Test.YtnhffmmgncfneaaN1
import Derived.Test.YtnhffmmgncfneaaLaw1
import Derived.Lib.Hide
set_option linter.unusedSimpArgs false
namespace Go.Proofs.Ytnhffmmgncfneaa
open Go.RowKit Go.Fl

theorem is_of_num {k : FloatKind} {x X : Nat} (h : Is k x X) (hn : isn k X = false) : x = X := by
  have h1 : isn k x = false := by rw [← isn_cn, h.2]; exact hn
  rw [← h.2, cn_of_not h1]

theorem Signbit_any (x : Nat) (hx : (x : Int) ≤ 18446744073709551615) (w : World) : Calls Try.prog 28 #[.float .f64 x] w fun e w' => e = .returned (.bool (decide (9223372036854775808 ≤ x))) ∧ w = w' := by
  go_enter Try.func28, Try.ntmps28
  go_wp2
  go_ret
  exact ⟨ret_bool (by rw [Bool.eq_iff_iff, decide_eq_true_eq, decide_eq_true_eq]; unfold wrap64; omega), rfl⟩
theorem Abs_any (x : Nat) (hx : (x : Int) ≤ 18446744073709551615) (w : World) : Calls Try.prog 26 #[.float .f64 x] w fun e w' => e = .returned (.float .f64 (x % 9223372036854775808)) ∧ w = w' := by
  have e : (bits BinOp.andNot IntKind.u64 (x : Int) 9223372036854775808).toNat = x % 9223372036854775808 := by
    have h := u64_andNot_nat x 9223372036854775808 (by omega) (by omega)
    rw [show ((9223372036854775808 : Nat) : Int) = 9223372036854775808 from rfl] at h
    rw [h, Int.toNat_natCast]
    exact Nat.and_two_pow_sub_one_eq_mod x 63
  go_enter Try.func26, Try.ntmps26
  go_wp2
  go_ret
  exact ⟨rfl, rfl⟩
theorem same3 {x X y Y r s : Nat} (hx : Is .f32 x X) (hy : Is .f32 y Y) (hr : Is .f64 r (wid X)) (hs : Is .f64 s (wid Y)) (h1 : ¬ fne .f32 X X = true) (h2 : fne .f32 Y Y = false) (h3 : feq .f32 X Y = true) :
    (decide (9223372036854775808 ≤ r) == decide (9223372036854775808 ≤ s)) = (X == Y) := by
  have n1 : isn .f32 X = false := num_of_fne (by simpa using h1)
  have n2 : isn .f32 Y = false := num_of_fne h2
  have l := same_law hx.can hy.can n1 n2
  rw [h3, Bool.true_and] at l
  rw [is_of_num hr (wid_num (can32_lt hx.can) n1), is_of_num hs (wid_num (can32_lt hy.can) n2)]
  exact l
theorem same4 {X Y : Nat} (h1 : ¬ fne .f32 X X = true) (_h2 : fne .f32 Y Y = false) (h3 : ¬ feq .f32 X Y = true) : false = (X == Y) := by
  symm
  rw [beq_eq_false_iff_ne]
  rintro rfl
  exact h3 ((feq_iff _ _ _).2 ⟨num_of_fne (by simpa using h1), num_of_fne (by simpa using h1), rfl⟩)
theorem Absf_any (x X : Nat) (hx : Is .f64 x X) (w : World) : Calls Try.prog 26 #[.float .f64 x] w fun e w' => ∃ r, e = .returned (.float .f64 r) ∧ Is .f64 r (fabs X) ∧ w = w' :=
  (Abs_any x (is64_le hx) w).mono fun _ _ ⟨he, hw⟩ => ⟨_, he, fabs_is hx, hw⟩
set_option maxHeartbeats 400000 in
theorem iSameNumber_any (x X y Y : Nat) (hx : Is .f32 x X) (hy : Is .f32 y Y) (w : World) : Calls Try.prog 20 #[.float .f32 x, .float .f32 y] w (VRet (.bool (X == Y)) w) := by
  go_enter Try.func20, Try.ntmps20
  go_wp2_with (first | (go_at_call 28; refine (Signbit_any _ (is64_le (by assumption)) _).mono ?_; rintro e w' ⟨rfl, rfl⟩) | ((with_reducible refine wpList_here ?_); (first | ((with_reducible refine wpList_feq (k := ?_) (bx := ?_) (by' := ?_) (X := ?_) (Y := ?_) ?_ ?_ ?_ ?_ ?_ ?_); rotate_left 5; (first | (with_reducible exact wanted_none) | ((with_reducible refine wanted_some ?_); rfl)); (rfl); (rfl); (first | assumption | ((refine Is.lit ?_); decide +kernel) | (refine Is.ofInt _ _)); (first | assumption | ((refine Is.lit ?_); decide +kernel) | (refine Is.ofInt _ _)); (try simp only [Act.put, List.setIfInBounds_toArray, List.set_cons_succ, List.set_cons_zero, World.drewN_drewN])) | ((with_reducible refine wpList_fne (k := ?_) (bx := ?_) (by' := ?_) (X := ?_) (Y := ?_) ?_ ?_ ?_ ?_ ?_ ?_); rotate_left 5; (first | (with_reducible exact wanted_none) | ((with_reducible refine wanted_some ?_); rfl)); (rfl); (rfl); (first | assumption | ((refine Is.lit ?_); decide +kernel) | (refine Is.ofInt _ _)); (first | assumption | ((refine Is.lit ?_); decide +kernel) | (refine Is.ofInt _ _)); (try simp only [Act.put, List.setIfInBounds_toArray, List.set_cons_succ, List.set_cons_zero, World.drewN_drewN])) | ((with_reducible refine wpList_flt (k := ?_) (bx := ?_) (by' := ?_) (X := ?_) (Y := ?_) ?_ ?_ ?_ ?_ ?_ ?_); rotate_left 5; (first | (with_reducible exact wanted_none) | ((with_reducible refine wanted_some ?_); rfl)); (rfl); (rfl); (first | assumption | ((refine Is.lit ?_); decide +kernel) | (refine Is.ofInt _ _)); (first | assumption | ((refine Is.lit ?_); decide +kernel) | (refine Is.ofInt _ _)); (try simp only [Act.put, List.setIfInBounds_toArray, List.set_cons_succ, List.set_cons_zero, World.drewN_drewN])) | ((with_reducible refine wpList_fle (k := ?_) (bx := ?_) (by' := ?_) (X := ?_) (Y := ?_) ?_ ?_ ?_ ?_ ?_ ?_); rotate_left 5; (first | (with_reducible exact wanted_none) | ((with_reducible refine wanted_some ?_); rfl)); (rfl); (rfl); (first | assumption | ((refine Is.lit ?_); decide +kernel) | (refine Is.ofInt _ _)); (first | assumption | ((refine Is.lit ?_); decide +kernel) | (refine Is.ofInt _ _)); (try simp only [Act.put, List.setIfInBounds_toArray, List.set_cons_succ, List.set_cons_zero, World.drewN_drewN])) | ((with_reducible refine wpList_fgt (k := ?_) (bx := ?_) (by' := ?_) (X := ?_) (Y := ?_) ?_ ?_ ?_ ?_ ?_ ?_); rotate_left 5; (first | (with_reducible exact wanted_none) | ((with_reducible refine wanted_some ?_); rfl)); (rfl); (rfl); (first | assumption | ((refine Is.lit ?_); decide +kernel) | (refine Is.ofInt _ _)); (first | assumption | ((refine Is.lit ?_); decide +kernel) | (refine Is.ofInt _ _)); (try simp only [Act.put, List.setIfInBounds_toArray, List.set_cons_succ, List.set_cons_zero, World.drewN_drewN])) | ((with_reducible refine wpList_fge (k := ?_) (bx := ?_) (by' := ?_) (X := ?_) (Y := ?_) ?_ ?_ ?_ ?_ ?_ ?_); rotate_left 5; (first | (with_reducible exact wanted_none) | ((with_reducible refine wanted_some ?_); rfl)); (rfl); (rfl); (first | assumption | ((refine Is.lit ?_); decide +kernel) | (refine Is.ofInt _ _)); (first | assumption | ((refine Is.lit ?_); decide +kernel) | (refine Is.ofInt _ _)); (try simp only [Act.put, List.setIfInBounds_toArray, List.set_cons_succ, List.set_cons_zero, World.drewN_drewN])) | ((with_reducible refine wpList_widen Try.underlying24 Try.underlying23 (bx := ?_) (X := ?_) ?_ ?_ ?_ ?_); rotate_left 2; (first | (with_reducible exact wanted_none) | ((with_reducible refine wanted_some ?_); rfl)); (rfl); (first | assumption | ((refine Is.lit ?_); decide +kernel) | (refine Is.ofInt _ _)); (intro r n hr); (try simp only [Act.put, List.setIfInBounds_toArray, List.set_cons_succ, List.set_cons_zero, World.drewN_drewN])))))
  all_goals go_ret
  all_goals first
    | exact ⟨ret_bool (sf1 hx.can hy.can (by assumption)), by repeat (first | exact Dr.refl _ | apply Dr.drewN)⟩
    | exact ⟨ret_bool (sf2 (by assumption) (by assumption)), by repeat (first | exact Dr.refl _ | apply Dr.drewN)⟩
    | exact ⟨ret_bool (same3 hx hy (by assumption) (by assumption) (by assumption) (by assumption) (by assumption)), by repeat (first | exact Dr.refl _ | apply Dr.drewN)⟩
    | exact ⟨ret_bool (same4 (by assumption) (by assumption) (by assumption)), by repeat (first | exact Dr.refl _ | apply Dr.drewN)⟩
theorem ret_t2 {k : FloatKind} {r r' : Nat} {b b' : Bool} (h : r = r') (g : b = b') : Ending.returned (.tuple #[.float k r, .bool b]) = .returned (.tuple #[.float k r', .bool b']) := by rw [h, g]
def bitsOk (n : Int) : Bool := decide (0 ≤ n) && decide (n ≤ 4294967295)
def FBpost (n : Int) (w : World) (e : Ending) (w' : World) : Prop := e = .returned (.tuple #[.float .f32 (if bitsOk n then n.toNat else 0), .bool (bitsOk n)]) ∧ w = w'
theorem sFromBits_any (n : Int) (w : World) : Calls Try.prog 21 #[.int .i64 n] w (FBpost n w) := by
  by_cases h0 : 0 ≤ n
  · by_cases h1 : n ≤ 4294967295
    · have he := Lib.hid (show bitsOk n = true by simp [bitsOk, h0, h1])
      go_enter Try.func21, Try.ntmps21
      go_wp2
      go_ret2
      exact ⟨ret_t2 (by rw [he.out]; rfl) he.out.symm, rfl⟩
    · have he := Lib.hid (show bitsOk n = false by simp [bitsOk, h1])
      go_enter Try.func21, Try.ntmps21
      go_wp2
      go_ret2
      exact ⟨ret_t2 (by rw [he.out]; rfl) he.out.symm, rfl⟩
  · have he := Lib.hid (show bitsOk n = false by simp [bitsOk, h0])
    go_enter Try.func21, Try.ntmps21
    go_wp2
    go_ret2
    exact ⟨ret_t2 (by rw [he.out]; rfl) he.out.symm, rfl⟩
theorem iFromBits_any (n : Int) (w : World) : Calls Try.prog 22 #[.int .i64 n] w (FBpost n w) := by
  by_cases h0 : 0 ≤ n
  · by_cases h1 : n ≤ 4294967295
    · have he := Lib.hid (show bitsOk n = true by simp [bitsOk, h0, h1])
      go_enter Try.func22, Try.ntmps22
      go_wp2
      go_ret2
      exact ⟨ret_t2 (by rw [he.out]; rfl) he.out.symm, rfl⟩
    · have he := Lib.hid (show bitsOk n = false by simp [bitsOk, h1])
      go_enter Try.func22, Try.ntmps22
      go_wp2
      go_ret2
      exact ⟨ret_t2 (by rw [he.out]; rfl) he.out.symm, rfl⟩
  · have he := Lib.hid (show bitsOk n = false by simp [bitsOk, h0])
    go_enter Try.func22, Try.ntmps22
    go_wp2
    go_ret2
    exact ⟨ret_t2 (by rw [he.out]; rfl) he.out.symm, rfl⟩
set_option maxHeartbeats 400000 in
theorem walkFnExactFromBits (n : Int) (_h : (Lit.int .i64 n).wf = true) (w : World) : Calls Try.prog 9 #[.int .i64 n] w fun e w' => e = .returned (.bool true) ∧ Below w.heap.size w w' := by
  have hi : Is .f32 (if bitsOk n then n.toNat else 0) (cn .f32 (if bitsOk n then n.toNat else 0)) := by
    refine ⟨?_, rfl⟩
    rw [w32]
    by_cases h : bitsOk n = true
    · rw [if_pos h]
      simp only [bitsOk, Bool.and_eq_true, decide_eq_true_eq] at h
      omega
    · rw [if_neg h]; omega
  generalize hv : (if bitsOk n then n.toNat else 0) = v at hi
  go_enter Try.func9, Try.ntmps9
  go_wp2_with fail
  refine (sFromBits_any _ _).mono ?_
  unfold FBpost
  rw [hv]
  rintro e w' ⟨rfl, rfl⟩
  have hv' := Lib.hid hv
  clear hv
  go_wp2_with fail
  refine (iFromBits_any _ _).mono ?_
  unfold FBpost
  rw [hv'.out]
  clear hv'
  rintro e w' ⟨rfl, rfl⟩
  go_wp2_with (first | ((with_reducible refine wpList_here ?_); (first | ((with_reducible refine wpList_widen Try.underlying24 Try.underlying23 (bx := ?_) (X := ?_) ?_ ?_ ?_ ?_); rotate_left 2; (first | (with_reducible exact wanted_none) | ((with_reducible refine wanted_some ?_); rfl)); (rfl); (first | assumption | ((refine Is.lit ?_); decide +kernel) | (refine Is.ofInt _ _)); (intro r n hr); (try simp only [Act.put, List.setIfInBounds_toArray, List.set_cons_succ, List.set_cons_zero, World.drewN_drewN])))) | (go_at_call 12; refine (sameFloat_any _ _ _ _ (by assumption) (by assumption) _).mono ?_; rintro e w' ⟨rfl, n, rfl⟩))
  go_ret
  exact ⟨rfl, (Dr.below (by repeat (first | exact Dr.refl _ | apply Dr.drewN)) _)⟩
def subn (X : Nat) : Bool := fne .f32 X 0 && decide (X &&& 2139095040 = 0)
set_option maxHeartbeats 400000 in
theorem sIsSubnormal_any (x X : Nat) (hx : Is .f32 x X) (w : World) : Calls Try.prog 15 #[.float .f32 x] w (VRet (.bool (subn X)) w) := by
  have hb : (X : Int) ≤ 4294967295 := by have := can32_lt hx.can; omega
  have e : bits BinOp.and IntKind.i64 (X : Int) 2139095040 = ((X &&& 2139095040 : Nat) : Int) := and_i64 X 2139095040 (by omega) (by omega)
  go_enter Try.func15, Try.ntmps15
  go_wp2_with (first | (go_at_call 24; refine (l01Bits_any _ _ hx _).mono ?_; rintro e w' ⟨rfl, rfl⟩) | ((with_reducible refine wpList_here ?_); (first | ((with_reducible refine wpList_feq (k := ?_) (bx := ?_) (by' := ?_) (X := ?_) (Y := ?_) ?_ ?_ ?_ ?_ ?_ ?_); rotate_left 5; (first | (with_reducible exact wanted_none) | ((with_reducible refine wanted_some ?_); rfl)); (rfl); (rfl); (first | assumption | ((refine Is.lit ?_); decide +kernel) | (refine Is.ofInt _ _)); (first | assumption | ((refine Is.lit ?_); decide +kernel) | (refine Is.ofInt _ _)); (try simp only [Act.put, List.setIfInBounds_toArray, List.set_cons_succ, List.set_cons_zero, World.drewN_drewN])) | ((with_reducible refine wpList_fne (k := ?_) (bx := ?_) (by' := ?_) (X := ?_) (Y := ?_) ?_ ?_ ?_ ?_ ?_ ?_); rotate_left 5; (first | (with_reducible exact wanted_none) | ((with_reducible refine wanted_some ?_); rfl)); (rfl); (rfl); (first | assumption | ((refine Is.lit ?_); decide +kernel) | (refine Is.ofInt _ _)); (first | assumption | ((refine Is.lit ?_); decide +kernel) | (refine Is.ofInt _ _)); (try simp only [Act.put, List.setIfInBounds_toArray, List.set_cons_succ, List.set_cons_zero, World.drewN_drewN])) | ((with_reducible refine wpList_flt (k := ?_) (bx := ?_) (by' := ?_) (X := ?_) (Y := ?_) ?_ ?_ ?_ ?_ ?_ ?_); rotate_left 5; (first | (with_reducible exact wanted_none) | ((with_reducible refine wanted_some ?_); rfl)); (rfl); (rfl); (first | assumption | ((refine Is.lit ?_); decide +kernel) | (refine Is.ofInt _ _)); (first | assumption | ((refine Is.lit ?_); decide +kernel) | (refine Is.ofInt _ _)); (try simp only [Act.put, List.setIfInBounds_toArray, List.set_cons_succ, List.set_cons_zero, World.drewN_drewN])) | ((with_reducible refine wpList_fle (k := ?_) (bx := ?_) (by' := ?_) (X := ?_) (Y := ?_) ?_ ?_ ?_ ?_ ?_ ?_); rotate_left 5; (first | (with_reducible exact wanted_none) | ((with_reducible refine wanted_some ?_); rfl)); (rfl); (rfl); (first | assumption | ((refine Is.lit ?_); decide +kernel) | (refine Is.ofInt _ _)); (first | assumption | ((refine Is.lit ?_); decide +kernel) | (refine Is.ofInt _ _)); (try simp only [Act.put, List.setIfInBounds_toArray, List.set_cons_succ, List.set_cons_zero, World.drewN_drewN])) | ((with_reducible refine wpList_fgt (k := ?_) (bx := ?_) (by' := ?_) (X := ?_) (Y := ?_) ?_ ?_ ?_ ?_ ?_ ?_); rotate_left 5; (first | (with_reducible exact wanted_none) | ((with_reducible refine wanted_some ?_); rfl)); (rfl); (rfl); (first | assumption | ((refine Is.lit ?_); decide +kernel) | (refine Is.ofInt _ _)); (first | assumption | ((refine Is.lit ?_); decide +kernel) | (refine Is.ofInt _ _)); (try simp only [Act.put, List.setIfInBounds_toArray, List.set_cons_succ, List.set_cons_zero, World.drewN_drewN])) | ((with_reducible refine wpList_fge (k := ?_) (bx := ?_) (by' := ?_) (X := ?_) (Y := ?_) ?_ ?_ ?_ ?_ ?_ ?_); rotate_left 5; (first | (with_reducible exact wanted_none) | ((with_reducible refine wanted_some ?_); rfl)); (rfl); (rfl); (first | assumption | ((refine Is.lit ?_); decide +kernel) | (refine Is.ofInt _ _)); (first | assumption | ((refine Is.lit ?_); decide +kernel) | (refine Is.ofInt _ _)); (try simp only [Act.put, List.setIfInBounds_toArray, List.set_cons_succ, List.set_cons_zero, World.drewN_drewN])))))
  all_goals go_ret
  · exact ⟨ret_bool (by unfold subn; rw [show fne .f32 X 0 = true by assumption, Bool.true_and, Bool.eq_iff_iff, beq_iff_eq, decide_eq_true_eq]; omega), (by repeat (first | exact Dr.refl _ | apply Dr.drewN))⟩
  · exact ⟨ret_bool (by unfold subn; rw [show fne .f32 X 0 = false by simpa using (show ¬ fne .f32 X 0 = true by assumption), Bool.false_and]), (by repeat (first | exact Dr.refl _ | apply Dr.drewN))⟩
set_option maxHeartbeats 400000 in
theorem iIsSubnormal_any (x X : Nat) (hx : Is .f32 x X) (w : World) : Calls Try.prog 16 #[.float .f32 x] w (VRet (.bool (subn X)) w) := by
  go_enter Try.func16, Try.ntmps16
  go_wp2_with (first | (go_at_call 26; refine (Absf_any _ _ (by assumption) _).mono ?_; rintro e w' ⟨r, rfl, hr, rfl⟩) | ((with_reducible refine wpList_here ?_); (first | ((with_reducible refine wpList_feq (k := ?_) (bx := ?_) (by' := ?_) (X := ?_) (Y := ?_) ?_ ?_ ?_ ?_ ?_ ?_); rotate_left 5; (first | (with_reducible exact wanted_none) | ((with_reducible refine wanted_some ?_); rfl)); (rfl); (rfl); (first | assumption | ((refine Is.lit ?_); decide +kernel) | (refine Is.ofInt _ _)); (first | assumption | ((refine Is.lit ?_); decide +kernel) | (refine Is.ofInt _ _)); (try simp only [Act.put, List.setIfInBounds_toArray, List.set_cons_succ, List.set_cons_zero, World.drewN_drewN])) | ((with_reducible refine wpList_fne (k := ?_) (bx := ?_) (by' := ?_) (X := ?_) (Y := ?_) ?_ ?_ ?_ ?_ ?_ ?_); rotate_left 5; (first | (with_reducible exact wanted_none) | ((with_reducible refine wanted_some ?_); rfl)); (rfl); (rfl); (first | assumption | ((refine Is.lit ?_); decide +kernel) | (refine Is.ofInt _ _)); (first | assumption | ((refine Is.lit ?_); decide +kernel) | (refine Is.ofInt _ _)); (try simp only [Act.put, List.setIfInBounds_toArray, List.set_cons_succ, List.set_cons_zero, World.drewN_drewN])) | ((with_reducible refine wpList_flt (k := ?_) (bx := ?_) (by' := ?_) (X := ?_) (Y := ?_) ?_ ?_ ?_ ?_ ?_ ?_); rotate_left 5; (first | (with_reducible exact wanted_none) | ((with_reducible refine wanted_some ?_); rfl)); (rfl); (rfl); (first | assumption | ((refine Is.lit ?_); decide +kernel) | (refine Is.ofInt _ _)); (first | assumption | ((refine Is.lit ?_); decide +kernel) | (refine Is.ofInt _ _)); (try simp only [Act.put, List.setIfInBounds_toArray, List.set_cons_succ, List.set_cons_zero, World.drewN_drewN])) | ((with_reducible refine wpList_fle (k := ?_) (bx := ?_) (by' := ?_) (X := ?_) (Y := ?_) ?_ ?_ ?_ ?_ ?_ ?_); rotate_left 5; (first | (with_reducible exact wanted_none) | ((with_reducible refine wanted_some ?_); rfl)); (rfl); (rfl); (first | assumption | ((refine Is.lit ?_); decide +kernel) | (refine Is.ofInt _ _)); (first | assumption | ((refine Is.lit ?_); decide +kernel) | (refine Is.ofInt _ _)); (try simp only [Act.put, List.setIfInBounds_toArray, List.set_cons_succ, List.set_cons_zero, World.drewN_drewN])) | ((with_reducible refine wpList_fgt (k := ?_) (bx := ?_) (by' := ?_) (X := ?_) (Y := ?_) ?_ ?_ ?_ ?_ ?_ ?_); rotate_left 5; (first | (with_reducible exact wanted_none) | ((with_reducible refine wanted_some ?_); rfl)); (rfl); (rfl); (first | assumption | ((refine Is.lit ?_); decide +kernel) | (refine Is.ofInt _ _)); (first | assumption | ((refine Is.lit ?_); decide +kernel) | (refine Is.ofInt _ _)); (try simp only [Act.put, List.setIfInBounds_toArray, List.set_cons_succ, List.set_cons_zero, World.drewN_drewN])) | ((with_reducible refine wpList_fge (k := ?_) (bx := ?_) (by' := ?_) (X := ?_) (Y := ?_) ?_ ?_ ?_ ?_ ?_ ?_); rotate_left 5; (first | (with_reducible exact wanted_none) | ((with_reducible refine wanted_some ?_); rfl)); (rfl); (rfl); (first | assumption | ((refine Is.lit ?_); decide +kernel) | (refine Is.ofInt _ _)); (first | assumption | ((refine Is.lit ?_); decide +kernel) | (refine Is.ofInt _ _)); (try simp only [Act.put, List.setIfInBounds_toArray, List.set_cons_succ, List.set_cons_zero, World.drewN_drewN])) | ((with_reducible refine wpList_widen Try.underlying24 Try.underlying23 (bx := ?_) (X := ?_) ?_ ?_ ?_ ?_); rotate_left 2; (first | (with_reducible exact wanted_none) | ((with_reducible refine wanted_some ?_); rfl)); (rfl); (first | assumption | ((refine Is.lit ?_); decide +kernel) | (refine Is.ofInt _ _)); (intro r n hr); (try simp only [Act.put, List.setIfInBounds_toArray, List.set_cons_succ, List.set_cons_zero, World.drewN_drewN])))))
  all_goals go_ret
  · exact ⟨ret_bool (by unfold subn; rw [show fne .f32 X 0 = true by assumption, Bool.true_and, subnormal_law hx.can]), (by repeat (first | exact Dr.refl _ | apply Dr.drewN))⟩
  · exact ⟨ret_bool (by unfold subn; rw [show fne .f32 X 0 = false by simpa using (show ¬ fne .f32 X 0 = true by assumption), Bool.false_and]), (by repeat (first | exact Dr.refl _ | apply Dr.drewN))⟩
set_option maxHeartbeats 400000 in
theorem walkFnExactIsSubnormal (x : Nat) (hx : (Lit.float .f32 x).wf = true) (w : World) : Calls Try.prog 6 #[.float .f32 x] w fun e w' => e = .returned (.bool true) ∧ Below w.heap.size w w' := by
  have hi := is_wf hx
  go_enter Try.func6, Try.ntmps6
  go_wp2_with fail
  refine (sIsSubnormal_any _ _ hi _).mono ?_
  rintro e w' ⟨rfl, n, rfl⟩
  go_wp2_with fail
  refine (iIsSubnormal_any _ _ hi _).mono ?_
  rintro e w' ⟨rfl, n, rfl⟩
  go_wp2_with fail
  go_ret
  exact ⟨rfl, (Dr.below (by repeat (first | exact Dr.refl _ | apply Dr.drewN)) _)⟩
set_option maxHeartbeats 400000 in
theorem walkFnExactSameNumber (x : Nat) (hx : (Lit.float .f32 x).wf = true) (y : Nat) (hy : (Lit.float .f32 y).wf = true) (w : World) : Calls Try.prog 8 #[.float .f32 x, .float .f32 y] w fun e w' => e = .returned (.bool true) ∧ Below w.heap.size w w' := by
  have hi := is_wf hx
  have hj := is_wf hy
  go_enter Try.func8, Try.ntmps8
  go_wp2_with fail
  refine (sSameNumber_any _ _ _ _ hi hj _).mono ?_
  rintro e w' ⟨rfl, rfl⟩
  go_wp2_with fail
  refine (iSameNumber_any _ _ _ _ hi hj _).mono ?_
  rintro e w' ⟨rfl, n, rfl⟩
  go_wp2_with fail
  go_ret
  exact ⟨rfl, Dr.below ⟨n, rfl⟩ _⟩
end Go.Proofs.Ytnhffmmgncfneaa
