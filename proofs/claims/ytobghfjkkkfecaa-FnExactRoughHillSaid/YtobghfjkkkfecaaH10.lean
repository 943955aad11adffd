/-
  CONTRACTS: hills scaled.
-/
import Derived.Test.YtobghfjkkkfecaaH9
import Derived.Test.YtobghfjkkkfecaaN3
set_option linter.unusedSimpArgs false
set_option linter.unusedVariables false
namespace Go.Proofs.Ytobghfjkkkfecaa
open Go.RowKit Go.Fl

def scaleF (xs : List Nat) (BY : Nat) (k : Nat) : Nat := fop .mul .f32 (cn .f32 (xs.getD k 0)) BY
def noR : HillR := ⟨false, 0, 0, 0, fun _ => 0⟩
def scaleR (W H : Int) (n : Nat) (xs : List Nat) (BY : Nat) : HillR := if validB W H n xs && fin32B BY then madeR W.toNat H.toNat (scaleF xs BY) else noR
theorem scaleR_n (W H : Int) (n : Nat) (xs : List Nat) (BY : Nat) : (scaleR W H n xs BY).n ≤ 1048576 := by
  unfold scaleR
  cases hv : validB W H n xs with
  | false => simp [noR]
  | true =>
    obtain ⟨a, b, rfl, rfl, h1, h2, h3, h4, _, _⟩ := valid_nat hv
    cases fin32B BY
    · simp [noR]
    · simpa using madeR_n (by omega) (by omega)
theorem hret_no {R : HillR} {w w' : World} (hR : R = noR) (hb : Bel w w') : HRet R w (.returned (.tuple #[hillV 0 0 none 0 0, .bool false])) w' := by
  subst hR
  exact ⟨none, 0, [], rfl, ORow.nil _ _ _, fun i hi => absurd hi (Nat.not_lt_zero _), hb⟩
theorem iScaleHow (w0 : World) (bx bf : Nat) (a b : Nat) (ha1 : 1 ≤ a) (ha2 : a ≤ 16) (hb1 : 1 ≤ b) (hb2 : b ≤ 16) (bo off c : Nat) (xs : List Nat) (by' BY : Nat) (hby : Is .f32 by' BY) (hF : bf < w0.heap.size ∧ w0.cell? ⟨bf, 0, none⟩ = some (.float .f32 by')) (hX : HBox w0 bx a b (.slice (some ⟨bo, off, none⟩) (b * a) c)) (hA : FRow w0 (some ⟨bo, off, none⟩) (b * a) xs) :
    HowGives 68 #[.pointer (some ⟨bx, 0, none⟩), .pointer (some ⟨bf, 0, none⟩)] a w0 (scaleF xs BY) (b * a) := by
  intro x y w hx hk hB
  have hX' := Lib.hid (HBox.bel hX hB)
  have hf1 := (hB.cell (p := ⟨bf, 0, none⟩) hF.1).trans hF.2
  have hf2 := Lib.hid (show bf < w.heap.size ∧ w.cell? ⟨bf, 0, none⟩ = some (.float .f32 by') from ⟨by have := hB.size; omega, hf1⟩)
  have hA' := Lib.hid (hA.bel hB)
  have hk' := Lib.hid hk
  have h256 : b * a ≤ 256 := Nat.mul_le_mul hb2 ha2
  have hya : y * a ≤ 256 := by omega
  obtain ⟨p, hp⟩ : ∃ p, p = y * a := ⟨_, rfl⟩
  obtain ⟨m, hm⟩ : ∃ m, m = y * a + x := ⟨_, rfl⟩
  have r1 : IntKind.i64.wrap ((y : Int) * a) = (p : Int) := by rw [hp, ← Int.natCast_mul]; exact IntWalk.i64_in _ (by omega)
  have r2 : IntKind.i64.wrap ((p : Int) + x) = (m : Int) := by rw [hm, ← hp, ← Int.natCast_add]; exact IntWalk.i64_in _ (by omega)
  have hmlt : m < b * a := by omega
  have hmi : (m : Int) < (b : Int) * (a : Int) := by rw [← Int.natCast_mul]; omega
  have hr : Is .f32 (xs.getD m 0) (cn .f32 (xs.getD m 0)) := hA.is hmlt
  obtain ⟨X, hXd⟩ : ∃ X, X = xs.getD m 0 := ⟨_, rfl⟩
  have eg : scaleF xs BY (y * a + x) = fop .mul .f32 (cn .f32 X) BY := by unfold scaleF; rw [hXd, hm]
  rw [eg]
  rw [← hXd] at hr
  have hXd' := Lib.hid hXd
  clear hp hm hA hX hB hk hF hf1 hXd eg hya
  go_enter Try.func68, Try.ntmps68
  go_wp2_with fail
  (refine Rk.region_K (Le := Bel) [0, 1, 2, 3, 4, 5, 6, 7, 8, 9, 10, 11] [12] Rk.good_bel (by kernel_rfl) (by kernel_rfl) (by kernel_rfl) (by kernel_rfl) ?_; (try simp only [Rk.pick, List.getElem?_cons_succ, List.getElem?_cons_zero, Option.toList_some, List.cons_append, List.nil_append, List.map_cons, List.map_nil]))
  repeat (first | ((with_reducible refine Rk.wpR_move Rk.good_bel (S := ?_) ?_ ?_ ?_ ?_); (first | exact Rk.yes_none | exact Rk.yes_some rfl rfl); rotate_left 2; (simp only [Rk.slotS, List.getD_cons_succ, List.getD_cons_zero]; rfl); rotate_left 1; (first | exact Rk.mon_is1 _ | exact Rk.mon_isF _ _ | assumption); (try simp only [Rk.upd, List.set_cons_succ, List.set_cons_zero])) | ((with_reducible refine Rk.wpR_assign Rk.good_bel (S := ?_) ?_ ?_ ?_ ?_); (first | exact Rk.yes_none | exact Rk.yes_some rfl rfl); rotate_left 2; (simp only [Rk.slotS, List.getD_cons_succ, List.getD_cons_zero]; rfl); rotate_left 1; (first | exact Rk.mon_is1 _ | exact Rk.mon_isF _ _ | assumption); (try simp only [Rk.upd, List.set_cons_succ, List.set_cons_zero])) | ((with_reducible refine Rk.wpR_skip (d := ?_) (c := ?_) ?_ ?_ ?_ ?_); rotate_left 2; rfl; rfl; rfl; (try simp only [Rk.upd, List.set_cons_succ, List.set_cons_zero])) | ((with_reducible refine Rk.wpR_pickT Rk.good_bel (S := ?_) ?_ ?_ ?_ ?_ ?_); (first | exact Rk.yes_none | exact Rk.yes_some rfl rfl); rotate_left 2; rfl; (simp only [Rk.slotS, List.getD_cons_succ, List.getD_cons_zero]; rfl); rotate_left 1; (first | exact Rk.mon_is1 _ | exact Rk.mon_isF _ _ | assumption); (try simp only [Rk.upd, List.set_cons_succ, List.set_cons_zero])) | ((with_reducible refine Rk.wpR_pickF Rk.good_bel (S := ?_) ?_ ?_ ?_ ?_ ?_); (first | exact Rk.yes_none | exact Rk.yes_some rfl rfl); rotate_left 2; rfl; (simp only [Rk.slotS, List.getD_cons_succ, List.getD_cons_zero]; rfl); rotate_left 1; (first | exact Rk.mon_is1 _ | exact Rk.mon_isF _ _ | assumption); (try simp only [Rk.upd, List.set_cons_succ, List.set_cons_zero])) | ((with_reducible refine Rk.wpR_widen Rk.good_bel Try.underlying32 Try.underlying56 (X := ?_) (S := ?_) ?_ ?_ ?_ ?_); rotate_left 2; (first | exact Rk.yes_none | exact Rk.yes_some rfl rfl); (simp only [Rk.slotS, List.getD_cons_succ, List.getD_cons_zero]; rfl); (first | exact Rk.subF_is _ _ | (refine Rk.subF_eq ?_; (first | assumption | ((refine Is.lit ?_); decide +kernel) | (refine Is.ofInt _ _)))); (try simp only [Rk.upd, List.set_cons_succ, List.set_cons_zero])) | ((with_reducible refine Rk.wpR_fadd Rk.good_bel (k := ?_) (X := ?_) (Y := ?_) (S := ?_) (T := ?_) ?_ ?_ ?_ ?_ ?_ ?_); rotate_left 5; (first | exact Rk.yes_none | exact Rk.yes_some rfl rfl); (simp only [Rk.slotS, List.getD_cons_succ, List.getD_cons_zero]; rfl); (simp only [Rk.slotS, List.getD_cons_succ, List.getD_cons_zero]; rfl); (first | exact Rk.subF_is _ _ | (refine Rk.subF_eq ?_; (first | assumption | ((refine Is.lit ?_); decide +kernel) | (refine Is.ofInt _ _)))); (first | exact Rk.subF_is _ _ | (refine Rk.subF_eq ?_; (first | assumption | ((refine Is.lit ?_); decide +kernel) | (refine Is.ofInt _ _)))); (try simp only [Rk.upd, List.set_cons_succ, List.set_cons_zero])) | ((with_reducible refine Rk.wpR_fsub Rk.good_bel (k := ?_) (X := ?_) (Y := ?_) (S := ?_) (T := ?_) ?_ ?_ ?_ ?_ ?_ ?_); rotate_left 5; (first | exact Rk.yes_none | exact Rk.yes_some rfl rfl); (simp only [Rk.slotS, List.getD_cons_succ, List.getD_cons_zero]; rfl); (simp only [Rk.slotS, List.getD_cons_succ, List.getD_cons_zero]; rfl); (first | exact Rk.subF_is _ _ | (refine Rk.subF_eq ?_; (first | assumption | ((refine Is.lit ?_); decide +kernel) | (refine Is.ofInt _ _)))); (first | exact Rk.subF_is _ _ | (refine Rk.subF_eq ?_; (first | assumption | ((refine Is.lit ?_); decide +kernel) | (refine Is.ofInt _ _)))); (try simp only [Rk.upd, List.set_cons_succ, List.set_cons_zero])) | ((with_reducible refine Rk.wpR_fmul Rk.good_bel (k := ?_) (X := ?_) (Y := ?_) (S := ?_) (T := ?_) ?_ ?_ ?_ ?_ ?_ ?_); rotate_left 5; (first | exact Rk.yes_none | exact Rk.yes_some rfl rfl); (simp only [Rk.slotS, List.getD_cons_succ, List.getD_cons_zero]; rfl); (simp only [Rk.slotS, List.getD_cons_succ, List.getD_cons_zero]; rfl); (first | exact Rk.subF_is _ _ | (refine Rk.subF_eq ?_; (first | assumption | ((refine Is.lit ?_); decide +kernel) | (refine Is.ofInt _ _)))); (first | exact Rk.subF_is _ _ | (refine Rk.subF_eq ?_; (first | assumption | ((refine Is.lit ?_); decide +kernel) | (refine Is.ofInt _ _)))); (try simp only [Rk.upd, List.set_cons_succ, List.set_cons_zero])) | ((with_reducible refine Rk.wpR_fquo Rk.good_bel (k := ?_) (X := ?_) (Y := ?_) (S := ?_) (T := ?_) ?_ ?_ ?_ ?_ ?_ ?_); rotate_left 5; (first | exact Rk.yes_none | exact Rk.yes_some rfl rfl); (simp only [Rk.slotS, List.getD_cons_succ, List.getD_cons_zero]; rfl); (simp only [Rk.slotS, List.getD_cons_succ, List.getD_cons_zero]; rfl); (first | exact Rk.subF_is _ _ | (refine Rk.subF_eq ?_; (first | assumption | ((refine Is.lit ?_); decide +kernel) | (refine Is.ofInt _ _)))); (first | exact Rk.subF_is _ _ | (refine Rk.subF_eq ?_; (first | assumption | ((refine Is.lit ?_); decide +kernel) | (refine Is.ofInt _ _)))); (try simp only [Rk.upd, List.set_cons_succ, List.set_cons_zero])) | ((with_reducible refine Rk.wpR_feq Rk.good_bel (k := ?_) (X := ?_) (Y := ?_) (S := ?_) (T := ?_) ?_ ?_ ?_ ?_ ?_ ?_); rotate_left 5; (first | exact Rk.yes_none | exact Rk.yes_some rfl rfl); (simp only [Rk.slotS, List.getD_cons_succ, List.getD_cons_zero]; rfl); (simp only [Rk.slotS, List.getD_cons_succ, List.getD_cons_zero]; rfl); (first | exact Rk.subF_is _ _ | (refine Rk.subF_eq ?_; (first | assumption | ((refine Is.lit ?_); decide +kernel) | (refine Is.ofInt _ _)))); (first | exact Rk.subF_is _ _ | (refine Rk.subF_eq ?_; (first | assumption | ((refine Is.lit ?_); decide +kernel) | (refine Is.ofInt _ _)))); (try simp only [Rk.upd, List.set_cons_succ, List.set_cons_zero])) | ((with_reducible refine Rk.wpR_fne Rk.good_bel (k := ?_) (X := ?_) (Y := ?_) (S := ?_) (T := ?_) ?_ ?_ ?_ ?_ ?_ ?_); rotate_left 5; (first | exact Rk.yes_none | exact Rk.yes_some rfl rfl); (simp only [Rk.slotS, List.getD_cons_succ, List.getD_cons_zero]; rfl); (simp only [Rk.slotS, List.getD_cons_succ, List.getD_cons_zero]; rfl); (first | exact Rk.subF_is _ _ | (refine Rk.subF_eq ?_; (first | assumption | ((refine Is.lit ?_); decide +kernel) | (refine Is.ofInt _ _)))); (first | exact Rk.subF_is _ _ | (refine Rk.subF_eq ?_; (first | assumption | ((refine Is.lit ?_); decide +kernel) | (refine Is.ofInt _ _)))); (try simp only [Rk.upd, List.set_cons_succ, List.set_cons_zero])) | ((with_reducible refine Rk.wpR_flt Rk.good_bel (k := ?_) (X := ?_) (Y := ?_) (S := ?_) (T := ?_) ?_ ?_ ?_ ?_ ?_ ?_); rotate_left 5; (first | exact Rk.yes_none | exact Rk.yes_some rfl rfl); (simp only [Rk.slotS, List.getD_cons_succ, List.getD_cons_zero]; rfl); (simp only [Rk.slotS, List.getD_cons_succ, List.getD_cons_zero]; rfl); (first | exact Rk.subF_is _ _ | (refine Rk.subF_eq ?_; (first | assumption | ((refine Is.lit ?_); decide +kernel) | (refine Is.ofInt _ _)))); (first | exact Rk.subF_is _ _ | (refine Rk.subF_eq ?_; (first | assumption | ((refine Is.lit ?_); decide +kernel) | (refine Is.ofInt _ _)))); (try simp only [Rk.upd, List.set_cons_succ, List.set_cons_zero])) | ((with_reducible refine Rk.wpR_fgt Rk.good_bel (k := ?_) (X := ?_) (Y := ?_) (S := ?_) (T := ?_) ?_ ?_ ?_ ?_ ?_ ?_); rotate_left 5; (first | exact Rk.yes_none | exact Rk.yes_some rfl rfl); (simp only [Rk.slotS, List.getD_cons_succ, List.getD_cons_zero]; rfl); (simp only [Rk.slotS, List.getD_cons_succ, List.getD_cons_zero]; rfl); (first | exact Rk.subF_is _ _ | (refine Rk.subF_eq ?_; (first | assumption | ((refine Is.lit ?_); decide +kernel) | (refine Is.ofInt _ _)))); (first | exact Rk.subF_is _ _ | (refine Rk.subF_eq ?_; (first | assumption | ((refine Is.lit ?_); decide +kernel) | (refine Is.ofInt _ _)))); (try simp only [Rk.upd, List.set_cons_succ, List.set_cons_zero])) | ((with_reducible refine Rk.wpR_fge Rk.good_bel (k := ?_) (X := ?_) (Y := ?_) (S := ?_) (T := ?_) ?_ ?_ ?_ ?_ ?_ ?_); rotate_left 5; (first | exact Rk.yes_none | exact Rk.yes_some rfl rfl); (simp only [Rk.slotS, List.getD_cons_succ, List.getD_cons_zero]; rfl); (simp only [Rk.slotS, List.getD_cons_succ, List.getD_cons_zero]; rfl); (first | exact Rk.subF_is _ _ | (refine Rk.subF_eq ?_; (first | assumption | ((refine Is.lit ?_); decide +kernel) | (refine Is.ofInt _ _)))); (first | exact Rk.subF_is _ _ | (refine Rk.subF_eq ?_; (first | assumption | ((refine Is.lit ?_); decide +kernel) | (refine Is.ofInt _ _)))); (try simp only [Rk.upd, List.set_cons_succ, List.set_cons_zero])) | ((with_reducible refine Rk.wpR_fle Rk.good_bel (k := ?_) (X := ?_) (Y := ?_) (S := ?_) (T := ?_) ?_ ?_ ?_ ?_ ?_ ?_); rotate_left 5; (first | exact Rk.yes_none | exact Rk.yes_some rfl rfl); (simp only [Rk.slotS, List.getD_cons_succ, List.getD_cons_zero]; rfl); (simp only [Rk.slotS, List.getD_cons_succ, List.getD_cons_zero]; rfl); (first | exact Rk.subF_is _ _ | (refine Rk.subF_eq ?_; (first | assumption | ((refine Is.lit ?_); decide +kernel) | (refine Is.ofInt _ _)))); (first | exact Rk.subF_is _ _ | (refine Rk.subF_eq ?_; (first | assumption | ((refine Is.lit ?_); decide +kernel) | (refine Is.ofInt _ _)))); (try simp only [Rk.upd, List.set_cons_succ, List.set_cons_zero])) | ((with_reducible refine Rk.wpR_indexAddr Rk.good_bel (v := ?_) (v' := ?_) (u := ?_) ?_ ?_ ?_ ?_ ?_); rotate_left 3; (first | exact Rk.yes_none | exact Rk.yes_some rfl rfl); (simp only [Rk.slotS, List.getD_cons_succ, List.getD_cons_zero]; rfl); (simp only [Rk.slotS, List.getD_cons_succ, List.getD_cons_zero]; rfl); (intro ρ w' hw hK1 hK2; go_simp; rfl); (try simp only [Rk.upd, List.set_cons_succ, List.set_cons_zero])) | ((with_reducible refine Rk.wpR_binOp Rk.good_bel (v := ?_) (v' := ?_) (u := ?_) ?_ ?_ ?_ ?_ ?_); rotate_left 3; (first | exact Rk.yes_none | exact Rk.yes_some rfl rfl); (simp only [Rk.slotS, List.getD_cons_succ, List.getD_cons_zero]; rfl); (simp only [Rk.slotS, List.getD_cons_succ, List.getD_cons_zero]; rfl); (intro ρ w' hw hK1 hK2; go_simp; rfl); (try simp only [Rk.upd, List.set_cons_succ, List.set_cons_zero])) | ((with_reducible refine Rk.wpR_load Rk.good_bel (v := ?_) (u := ?_) ?_ ?_ ?_ ?_); rotate_left 2; (first | exact Rk.yes_none | exact Rk.yes_some rfl rfl); (simp only [Rk.slotS, List.getD_cons_succ, List.getD_cons_zero]; rfl); (intro ρ w' hw hK1; obtain ⟨_, k0, k1, k2⟩ := HBox.bel hX'.out hw; have kk := frow_cell hA'.out hw hmlt; rw [← hXd'.out] at kk; have k3 := (hw.cell (p := ⟨bf, 0, none⟩) hf2.out.1).trans hf2.out.2; go_simp; rfl); (try simp only [Rk.upd, List.set_cons_succ, List.set_cons_zero])) | ((with_reducible refine Rk.wpR_unOp Rk.good_bel (v := ?_) (u := ?_) ?_ ?_ ?_ ?_); rotate_left 2; (first | exact Rk.yes_none | exact Rk.yes_some rfl rfl); (simp only [Rk.slotS, List.getD_cons_succ, List.getD_cons_zero]; rfl); (intro ρ w' hw hK1; go_simp; rfl); (try simp only [Rk.upd, List.set_cons_succ, List.set_cons_zero])) | ((with_reducible refine Rk.wpR_convert Rk.good_bel (v := ?_) (u := ?_) ?_ ?_ ?_ ?_); rotate_left 2; (first | exact Rk.yes_none | exact Rk.yes_some rfl rfl); (simp only [Rk.slotS, List.getD_cons_succ, List.getD_cons_zero]; rfl); (intro ρ w' hw hK1; go_simp; rfl); (try simp only [Rk.upd, List.set_cons_succ, List.set_cons_zero])) | ((with_reducible refine Rk.wpR_field Rk.good_bel (v := ?_) (u := ?_) ?_ ?_ ?_ ?_); rotate_left 2; (first | exact Rk.yes_none | exact Rk.yes_some rfl rfl); (simp only [Rk.slotS, List.getD_cons_succ, List.getD_cons_zero]; rfl); (intro ρ w' hw hK1; go_simp; rfl); (try simp only [Rk.upd, List.set_cons_succ, List.set_cons_zero])) | ((with_reducible refine Rk.wpR_fieldAddr Rk.good_bel (v := ?_) (u := ?_) ?_ ?_ ?_ ?_); rotate_left 2; (first | exact Rk.yes_none | exact Rk.yes_some rfl rfl); (simp only [Rk.slotS, List.getD_cons_succ, List.getD_cons_zero]; rfl); (intro ρ w' hw hK1; go_simp; rfl); (try simp only [Rk.upd, List.set_cons_succ, List.set_cons_zero])) | ((with_reducible refine Rk.wpR_nilCheck Rk.good_bel (v := ?_) (u := ?_) ?_ ?_ ?_ ?_); rotate_left 2; (first | exact Rk.yes_none | exact Rk.yes_some rfl rfl); (simp only [Rk.slotS, List.getD_cons_succ, List.getD_cons_zero]; rfl); (intro ρ w' hw hK1; go_simp; rfl); (try simp only [Rk.upd, List.set_cons_succ, List.set_cons_zero])) | ((with_reducible refine Rk.wpR_builtin1 Rk.good_bel (v := ?_) (u := ?_) ?_ ?_ ?_ ?_); rotate_left 2; (first | exact Rk.yes_none | exact Rk.yes_some rfl rfl); (simp only [Rk.slotS, List.getD_cons_succ, List.getD_cons_zero]; rfl); (intro ρ w' hw hK1; go_simp; rfl); (try simp only [Rk.upd, List.set_cons_succ, List.set_cons_zero])) | ((with_reducible refine Rk.wpR_extract Rk.good_bel (v := ?_) (u := ?_) ?_ ?_ ?_ ?_); rotate_left 2; (first | exact Rk.yes_none | exact Rk.yes_some rfl rfl); (simp only [Rk.slotS, List.getD_cons_succ, List.getD_cons_zero]; rfl); (intro ρ w' hw hK1; go_simp; rfl); (try simp only [Rk.upd, List.set_cons_succ, List.set_cons_zero])))
  refine Rk.wpR_end ?_
  intro wK hwK
  repeat (first | refine Rk.all2_is1 ?_ | (refine Rk.all2_isF ?_; intro r0 hr0))
  refine Rk.all2_nil ?_
  go_wp2
  go_ret
  exact ⟨_, rfl, hwK, r0, rfl, hr0⟩
/-- a result variable that holds the empty hill -/
def RBox (w : World) (b : Nat) : Prop := b < w.heap.size ∧ w.heap[b]? = some resO
theorem RBox.bel {w w' : World} {b : Nat} (h : RBox w b) (hb : Bel w w') : RBox w' b := ⟨Nat.lt_of_lt_of_le h.1 hb.size, by rw [hb.block b h.1]; exact h.2⟩
theorem rbox_at (w : World) (b : Nat) (hb : w.heap.size = b) : RBox (w.alloc resO) b := by subst hb; exact ⟨by simp, heap_alloc_new w _⟩
theorem rbox_facts {w : World} {b : Nat} (h : RBox w b) : w.cell? ⟨b, 0, none⟩ = some (.int .i64 0) ∧ w.cell? ⟨b, 1, none⟩ = some (.int .i64 0) ∧ w.cell? ⟨b, 2, none⟩ = some (.slice none 0 0) ∧ w.frozen? ⟨b, 0, none⟩ = false ∧ w.frozen? ⟨b, 1, none⟩ = false ∧ w.frozen? ⟨b, 2, none⟩ = false := by
  refine ⟨?_, ?_, ?_, cells_free h.2 0, cells_free h.2 1, cells_free h.2 2⟩ <;> (unfold World.cell?; simp [h.2])
def FBox (w : World) (b : Nat) (x : Nat) : Prop := b < w.heap.size ∧ w.cell? ⟨b, 0, none⟩ = some (.float .f32 x)
theorem FBox.bel {w w' : World} {b x : Nat} (h : FBox w b x) (hb : Bel w w') : FBox w' b x := ⟨Nat.lt_of_lt_of_le h.1 hb.size, (hb.cell (p := ⟨b, 0, none⟩) h.1).trans h.2⟩
theorem fbox_at (w : World) (b x : Nat) (t : TypeId) (hb : w.heap.size = b) : FBox (w.alloc (.cells #[.float .f32 x] t)) b x := by subst hb; exact ⟨by simp, by go_simp⟩
theorem dr_bel {w w' : World} (h : Dr w w') : Bel w w' := by obtain ⟨n, rfl⟩ := h; exact (Bel.refl w).drewN n
theorem hret_set3 {R : HillR} {w wr : World} {b : Nat} {ao : Option Addr} {c : Nat} {xs : List Nat} {W H : Int} {n : Nat} {ok : Bool} {v0 v1 v2 : Value} (hW : R.W = W) (hH : R.H = H) (hN : R.n = n) (hok : R.ok = ok)
    (hO : ORow w.heap.size wr.heap.size wr ao n xs) (hne : ∀ a, ao = some a → a.block ≠ b) (hF : ∀ i, i < n → cn .f32 (xs.getD i 0) = R.F i) (hb : Bel w wr) (hbb : w.heap.size ≤ b) :
    HRet R w (.returned (.tuple #[hillV W H ao n c, .bool ok])) (((wr.setCell ⟨b, 0, none⟩ v0).setCell ⟨b, 1, none⟩ v1).setCell ⟨b, 2, none⟩ v2) := by
  subst hW hH hN hok
  refine ⟨ao, c, xs, rfl, ?_, hF, (((hb.setCell hbb _).setCell hbb _).setCell hbb _)⟩
  exact (((hO.setOther hne _).setOther hne _).setOther hne _).mono (Nat.le_refl _) (by simp [World.setCell])
theorem hret_far {w' : World} {b : Nat} {w0 : World} {ao : Option Addr} {n : Nat} {xs : List Nat} (hO : ORow w0.heap.size w'.heap.size w' ao n xs) (hb : b < w0.heap.size) : ∀ a, ao = some a → a.block ≠ b := fun a ha => by have := (hO.own a ha).1; omega

set_option maxHeartbeats 2000000 in
theorem iScaleHill_any (w : World) (W H : Int) (ao : Option Addr) (n c : Nat) (xs : List Nat) (by' BY : Nat) (hby : Is .f32 by' BY) (hA : FRow w ao n xs) (hm : n ≤ 1048576) :
    Calls Try.prog 31 #[hillV W H ao n c, .float .f32 by'] w (HRet (scaleR W H n xs BY) w) := by
  have hA' := Lib.hid hA
  clear hA
  cases hv : validB W H n xs with
  | false =>
    have hR := Lib.hid (show scaleR W H n xs BY = noR by unfold scaleR; rw [hv]; rfl)
    have hv' := Lib.hid hv
    clear hv
    go_enter Try.func31, Try.ntmps31
    go_wp2_with fail
    refine (iValidHill_any _ W H _ _ _ xs (by exact ((hA'.out.alloc _).alloc _).alloc _) hm).mono ?_
    rintro e w1 ⟨rfl, hB⟩
    rw [hv'.out]
    obtain ⟨y0, y1, y2, f0, f1, f2⟩ := rbox_facts ((rbox_at ((w.alloc _).alloc _) (w.heap.size + 1 + 1) (by simp)).bel hB)
    have hB' := Lib.hid hB
    clear hB
    go_wp2_with fail
    refine bodyPost_ret (v := .tuple #[hillV 0 0 none 0 0, .bool false]) (by simp [results, Try.results31, go_sem, y0, y1, y2]) rfl (hret_no hR.out ?_)
    exact (((((((Bel.refl w).alloc _).alloc _).alloc _).trans hB'.out).setCell (by simp; omega) _).setCell (by simp; omega) _).setCell (by simp; omega) _
  | true =>
    obtain ⟨a, b, rfl, rfl, ha1, ha2, hb1, hb2, rfl, hf⟩ := valid_nat hv
    have hv' := Lib.hid hv
    have hpos : 0 < b * a := Nat.mul_pos (by omega) (by omega)
    obtain ⟨bo, off, rfl, _⟩ := hA'.out.at0 hpos
    have hR0 := Lib.hid (show scaleR a b (b * a) xs BY = if fin32B BY then madeR a b (scaleF xs BY) else noR by unfold scaleR; rw [hv]; simp)
    clear hv hf
    go_enter Try.func31, Try.ntmps31
    go_wp2_with fail
    refine (iValidHill_any _ a b _ _ _ xs (by exact ((hA'.out.alloc _).alloc _).alloc _) hm).mono ?_
    rintro e w1 ⟨rfl, hB⟩
    rw [hv'.out]
    have hX := Lib.hid (HBox.bel (((hbox_new w a b (.slice (some ⟨bo, off, none⟩) (b * a) c) 27).alloc _).alloc _) hB)
    have hY := Lib.hid ((rbox_at ((w.alloc _).alloc _) (w.heap.size + 1 + 1) (by simp)).bel hB)
    have hF := FBox.bel (b := w.heap.size + 1) (((fbox_at (w.alloc _) (w.heap.size + 1) by' 32 (by simp))).bel ((Bel.refl _).alloc _)) hB
    have hF' := Lib.hid hF
    have k3 := hF.2
    have hA1 := Lib.hid ((((hA'.out.alloc _).alloc _).alloc _).bel hB)
    have hB' := Lib.hid hB
    clear hB hF
    go_wp2_with fail
    refine (iIsFinite_any by' BY hby _).mono ?_
    rintro e w2 ⟨rfl, hD⟩
    have hB2 := dr_bel hD
    replace hX := Lib.hid (hX.out.bel hB2)
    replace hY := Lib.hid (hY.out.bel hB2)
    replace hF' := Lib.hid (hF'.out.bel hB2)
    replace hA1 := Lib.hid (hA1.out.bel hB2)
    replace hB' := Lib.hid (hB'.out.trans hB2)
    clear hB2 hD k3
    cases hfy : fin32B BY with
    | false =>
      have hR := Lib.hid (show scaleR a b (b * a) xs BY = noR by rw [hR0.out, hfy]; rfl)
      obtain ⟨y0, y1, y2, f0, f1, f2⟩ := rbox_facts hY.out
      clear hfy
      go_wp2_with fail
      refine bodyPost_ret (v := .tuple #[hillV 0 0 none 0 0, .bool false]) (by simp [results, Try.results31, go_sem, y0, y1, y2]) rfl (hret_no hR.out ?_)
      exact (((((((Bel.refl w).alloc _).alloc _).alloc _).trans hB'.out).setCell (by simp; omega) _).setCell (by simp; omega) _).setCell (by simp; omega) _
    | true =>
      have hR := Lib.hid (show scaleR a b (b * a) xs BY = madeR a b (scaleF xs BY) by rw [hR0.out, hfy]; rfl)
      clear hfy
      have hX2 := hX.out
      obtain ⟨_, x0, x1, x2⟩ := hX2
      go_wp2_with fail
      refine (made_any w2 a b ha1 ha2 hb1 hb2 68 #[.pointer (some ⟨w.heap.size, 0, none⟩), .pointer (some ⟨w.heap.size + 1, 0, none⟩)] (Rg.enters Try.func68 (by kernel_rfl) (by kernel_rfl)) (scaleF xs BY) (iScaleHow w2 w.heap.size (w.heap.size + 1) a b ha1 ha2 hb1 hb2 bo off c xs by' BY hby hF'.out hX.out hA1.out)).mono ?_
      rintro e w3 ⟨ao2, c2, ws, rfl, hO, hG, hB3⟩
      obtain ⟨y0, y1, y2, f0, f1, f2⟩ := rbox_facts (hY.out.bel hB3)
      have hO' := Lib.hid hO
      have hG' := Lib.hid hG
      have hB3' := Lib.hid hB3
      clear hO hG hB3 x0 x1 x2
      rw [← hR.out] at *
      go_wp2_with fail
      refine bodyPost_ret (v := .tuple #[hillV (scaleR a b (b * a) xs BY).W (scaleR a b (b * a) xs BY).H ao2 (scaleR a b (b * a) xs BY).n c2, .bool (scaleR a b (b * a) xs BY).ok]) (by simp [results, Try.results31, go_sem, y0, y1, y2]) rfl ?_
      refine hret_set3 rfl rfl rfl rfl (hO'.out.mono ?_ (Nat.le_refl _)) (fun a ha => ?_) hG'.out ((((((Bel.refl w).alloc _).alloc _).alloc _).trans hB'.out).trans hB3'.out) (by omega)
      · have := hB'.out.size; simp at this; omega
      · have := (hO'.out.own a ha).1; have := hY.out.1; omega
end Go.Proofs.Ytobghfjkkkfecaa
