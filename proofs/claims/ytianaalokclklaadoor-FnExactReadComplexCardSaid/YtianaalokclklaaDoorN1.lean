/-
  CONTRACTS: the bits of 32-bit numbers; sameness; from bits.
-/
import Derived.Test.YtianaalokclklaaDoorN0
set_option linter.unusedSimpArgs false
namespace Go.Proofs.YtianaalokclklaaDoor
open Go.RowKit Go.Fl

@[go_sem] theorem F32bits_run (b : Nat) (w : World) : (callFunc 80 #[.float .f32 b]).run Tryd.prog w = .ok (.value (.int .u32 b)) w := by
  rw [run_callFunc_extern (e := Extern.MathFloatBits.float32bits) Tryd.func80 (by kernel_rfl) (by kernel_rfl) (by kernel_rfl) (by kernel_rfl)]; rfl
@[go_sem] theorem F32from_run (n : Int) (w : World) : (callFunc 70 #[.int .u32 n]).run Tryd.prog w = .ok (.value (.float .f32 n.toNat)) w := by
  rw [run_callFunc_extern (e := Extern.MathFloatBits.float32frombits) Tryd.func70 (by kernel_rfl) (by kernel_rfl) (by kernel_rfl) (by kernel_rfl)]; rfl

theorem is32_le {x X : Nat} (h : Is .f32 x X) : (x : Int) ≤ 4294967295 := by
  have w32 : 2 ^ FloatKind.f32.format.width = 4294967296 := by decide +kernel
  have := h.1
  omega
theorem is64_le {x X : Nat} (h : Is .f64 x X) : (x : Int) ≤ 18446744073709551615 := by
  have w64 : 2 ^ FloatKind.f64.format.width = 18446744073709551616 := by decide +kernel
  have := h.1
  omega

theorem is_wf {k : FloatKind} {b : Nat} (h : (Lit.float k b).wf = true) : Is k b (cn k b) := by
  have w32 : 2 ^ FloatKind.f32.format.width = 4294967296 := by decide +kernel
  have w64 : 2 ^ FloatKind.f64.format.width = 18446744073709551616 := by decide +kernel
  refine ⟨?_, rfl⟩
  cases k
  · rw [w32]; simpa [Lit.wf] using h
  · rw [w64]; simpa [Lit.wf] using h

theorem isn_of_fne {k : FloatKind} {X : Nat} (hn : fne k X X = true) : isn k X = true := by
  have := (fne_iff k X X).1 hn; simpa using this
theorem num_of_fne {k : FloatKind} {X : Nat} (hn : fne k X X = false) : isn k X = false := by
  cases g : isn k X
  · rfl
  · rw [(fne_iff k X X).2 (.inl g)] at hn; cases hn

theorem is_nan {k : FloatKind} {x X : Nat} (h : Is k x X) (hn : fne k X X = true) : X = qn k := h.can.nan (isn_of_fne hn)
theorem is_num {k : FloatKind} {x X : Nat} (h : Is k x X) (hn : fne k X X = false) : x = X := by
  have h1 : isn k x = false := by
    rw [← isn_cn, h.2]; exact num_of_fne hn
  rw [← h.2, cn_of_not h1]
theorem is_num' {k : FloatKind} {x X : Nat} (h : Is k x X) (hn : ¬ fne k X X = true) : x = X := is_num h (by simpa using hn)

theorem ret_i64 {a b : Int} (h : a = b) : Ending.returned (.int .i64 a) = .returned (.int .i64 b) := by rw [h]

set_option maxHeartbeats 400000 in
theorem l01Bits_any (x X : Nat) (hx : Is .f32 x X) (w : World) : Calls Tryd.prog 68 #[.float .f32 x] w fun e w' => e = .returned (.int .i64 X) ∧ w = w' := by
  have hb := is32_le hx
  go_enter Tryd.func68, Tryd.ntmps68
  go_wp2_with (first | ((with_reducible refine wpList_here ?_); (first | ((with_reducible refine wpList_feq (k := ?_) (bx := ?_) (by' := ?_) (X := ?_) (Y := ?_) ?_ ?_ ?_ ?_ ?_ ?_); rotate_left 5; (first | (with_reducible exact wanted_none) | ((with_reducible refine wanted_some ?_); rfl)); (rfl); (rfl); (first | assumption | ((refine Is.lit ?_); decide +kernel) | (refine Is.ofInt _ _)); (first | assumption | ((refine Is.lit ?_); decide +kernel) | (refine Is.ofInt _ _)); (try simp only [Act.put, List.setIfInBounds_toArray, List.set_cons_succ, List.set_cons_zero, World.drewN_drewN])) | ((with_reducible refine wpList_fne (k := ?_) (bx := ?_) (by' := ?_) (X := ?_) (Y := ?_) ?_ ?_ ?_ ?_ ?_ ?_); rotate_left 5; (first | (with_reducible exact wanted_none) | ((with_reducible refine wanted_some ?_); rfl)); (rfl); (rfl); (first | assumption | ((refine Is.lit ?_); decide +kernel) | (refine Is.ofInt _ _)); (first | assumption | ((refine Is.lit ?_); decide +kernel) | (refine Is.ofInt _ _)); (try simp only [Act.put, List.setIfInBounds_toArray, List.set_cons_succ, List.set_cons_zero, World.drewN_drewN])) | ((with_reducible refine wpList_flt (k := ?_) (bx := ?_) (by' := ?_) (X := ?_) (Y := ?_) ?_ ?_ ?_ ?_ ?_ ?_); rotate_left 5; (first | (with_reducible exact wanted_none) | ((with_reducible refine wanted_some ?_); rfl)); (rfl); (rfl); (first | assumption | ((refine Is.lit ?_); decide +kernel) | (refine Is.ofInt _ _)); (first | assumption | ((refine Is.lit ?_); decide +kernel) | (refine Is.ofInt _ _)); (try simp only [Act.put, List.setIfInBounds_toArray, List.set_cons_succ, List.set_cons_zero, World.drewN_drewN])) | ((with_reducible refine wpList_fle (k := ?_) (bx := ?_) (by' := ?_) (X := ?_) (Y := ?_) ?_ ?_ ?_ ?_ ?_ ?_); rotate_left 5; (first | (with_reducible exact wanted_none) | ((with_reducible refine wanted_some ?_); rfl)); (rfl); (rfl); (first | assumption | ((refine Is.lit ?_); decide +kernel) | (refine Is.ofInt _ _)); (first | assumption | ((refine Is.lit ?_); decide +kernel) | (refine Is.ofInt _ _)); (try simp only [Act.put, List.setIfInBounds_toArray, List.set_cons_succ, List.set_cons_zero, World.drewN_drewN])) | ((with_reducible refine wpList_fgt (k := ?_) (bx := ?_) (by' := ?_) (X := ?_) (Y := ?_) ?_ ?_ ?_ ?_ ?_ ?_); rotate_left 5; (first | (with_reducible exact wanted_none) | ((with_reducible refine wanted_some ?_); rfl)); (rfl); (rfl); (first | assumption | ((refine Is.lit ?_); decide +kernel) | (refine Is.ofInt _ _)); (first | assumption | ((refine Is.lit ?_); decide +kernel) | (refine Is.ofInt _ _)); (try simp only [Act.put, List.setIfInBounds_toArray, List.set_cons_succ, List.set_cons_zero, World.drewN_drewN])) | ((with_reducible refine wpList_fge (k := ?_) (bx := ?_) (by' := ?_) (X := ?_) (Y := ?_) ?_ ?_ ?_ ?_ ?_ ?_); rotate_left 5; (first | (with_reducible exact wanted_none) | ((with_reducible refine wanted_some ?_); rfl)); (rfl); (rfl); (first | assumption | ((refine Is.lit ?_); decide +kernel) | (refine Is.ofInt _ _)); (first | assumption | ((refine Is.lit ?_); decide +kernel) | (refine Is.ofInt _ _)); (try simp only [Act.put, List.setIfInBounds_toArray, List.set_cons_succ, List.set_cons_zero, World.drewN_drewN])))))
  all_goals go_ret
  all_goals first | exact ⟨ret_i64 (by rw [is_nan hx (by assumption)]; rfl), rfl⟩ | exact ⟨ret_i64 (by rw [is_num hx (by assumption)]), rfl⟩ | exact ⟨ret_i64 (by rw [is_num' hx (by assumption)]), rfl⟩
set_option maxHeartbeats 400000 in
theorem iBitsOf_any (x X : Nat) (hx : Is .f32 x X) (w : World) : Calls Tryd.prog 61 #[.float .f32 x] w fun e w' => e = .returned (.int .i64 X) ∧ w = w' := by
  have hb := is32_le hx
  go_enter Tryd.func61, Tryd.ntmps61
  go_wp2_with (first | ((with_reducible refine wpList_here ?_); (first | ((with_reducible refine wpList_feq (k := ?_) (bx := ?_) (by' := ?_) (X := ?_) (Y := ?_) ?_ ?_ ?_ ?_ ?_ ?_); rotate_left 5; (first | (with_reducible exact wanted_none) | ((with_reducible refine wanted_some ?_); rfl)); (rfl); (rfl); (first | assumption | ((refine Is.lit ?_); decide +kernel) | (refine Is.ofInt _ _)); (first | assumption | ((refine Is.lit ?_); decide +kernel) | (refine Is.ofInt _ _)); (try simp only [Act.put, List.setIfInBounds_toArray, List.set_cons_succ, List.set_cons_zero, World.drewN_drewN])) | ((with_reducible refine wpList_fne (k := ?_) (bx := ?_) (by' := ?_) (X := ?_) (Y := ?_) ?_ ?_ ?_ ?_ ?_ ?_); rotate_left 5; (first | (with_reducible exact wanted_none) | ((with_reducible refine wanted_some ?_); rfl)); (rfl); (rfl); (first | assumption | ((refine Is.lit ?_); decide +kernel) | (refine Is.ofInt _ _)); (first | assumption | ((refine Is.lit ?_); decide +kernel) | (refine Is.ofInt _ _)); (try simp only [Act.put, List.setIfInBounds_toArray, List.set_cons_succ, List.set_cons_zero, World.drewN_drewN])) | ((with_reducible refine wpList_flt (k := ?_) (bx := ?_) (by' := ?_) (X := ?_) (Y := ?_) ?_ ?_ ?_ ?_ ?_ ?_); rotate_left 5; (first | (with_reducible exact wanted_none) | ((with_reducible refine wanted_some ?_); rfl)); (rfl); (rfl); (first | assumption | ((refine Is.lit ?_); decide +kernel) | (refine Is.ofInt _ _)); (first | assumption | ((refine Is.lit ?_); decide +kernel) | (refine Is.ofInt _ _)); (try simp only [Act.put, List.setIfInBounds_toArray, List.set_cons_succ, List.set_cons_zero, World.drewN_drewN])) | ((with_reducible refine wpList_fle (k := ?_) (bx := ?_) (by' := ?_) (X := ?_) (Y := ?_) ?_ ?_ ?_ ?_ ?_ ?_); rotate_left 5; (first | (with_reducible exact wanted_none) | ((with_reducible refine wanted_some ?_); rfl)); (rfl); (rfl); (first | assumption | ((refine Is.lit ?_); decide +kernel) | (refine Is.ofInt _ _)); (first | assumption | ((refine Is.lit ?_); decide +kernel) | (refine Is.ofInt _ _)); (try simp only [Act.put, List.setIfInBounds_toArray, List.set_cons_succ, List.set_cons_zero, World.drewN_drewN])) | ((with_reducible refine wpList_fgt (k := ?_) (bx := ?_) (by' := ?_) (X := ?_) (Y := ?_) ?_ ?_ ?_ ?_ ?_ ?_); rotate_left 5; (first | (with_reducible exact wanted_none) | ((with_reducible refine wanted_some ?_); rfl)); (rfl); (rfl); (first | assumption | ((refine Is.lit ?_); decide +kernel) | (refine Is.ofInt _ _)); (first | assumption | ((refine Is.lit ?_); decide +kernel) | (refine Is.ofInt _ _)); (try simp only [Act.put, List.setIfInBounds_toArray, List.set_cons_succ, List.set_cons_zero, World.drewN_drewN])) | ((with_reducible refine wpList_fge (k := ?_) (bx := ?_) (by' := ?_) (X := ?_) (Y := ?_) ?_ ?_ ?_ ?_ ?_ ?_); rotate_left 5; (first | (with_reducible exact wanted_none) | ((with_reducible refine wanted_some ?_); rfl)); (rfl); (rfl); (first | assumption | ((refine Is.lit ?_); decide +kernel) | (refine Is.ofInt _ _)); (first | assumption | ((refine Is.lit ?_); decide +kernel) | (refine Is.ofInt _ _)); (try simp only [Act.put, List.setIfInBounds_toArray, List.set_cons_succ, List.set_cons_zero, World.drewN_drewN])))))
  all_goals go_ret
  all_goals first | exact ⟨ret_i64 (by rw [is_nan hx (by assumption)]; rfl), rfl⟩ | exact ⟨ret_i64 (by rw [is_num hx (by assumption)]), rfl⟩ | exact ⟨ret_i64 (by rw [is_num' hx (by assumption)]), rfl⟩
end Go.Proofs.YtianaalokclklaaDoor
