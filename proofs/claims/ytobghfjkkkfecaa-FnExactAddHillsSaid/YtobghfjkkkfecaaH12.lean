/-
  CONTRACTS: hills added. (Printed by a program of mine.)
-/
import Derived.Test.YtobghfjkkkfecaaH11
set_option linter.unusedSimpArgs false
set_option linter.unusedVariables false
namespace Go.Proofs.Ytobghfjkkkfecaa
open Go.RowKit Go.Fl

def addF (xs ys : List Nat) (k : Nat) : Nat := fop .add .f32 (cn .f32 (xs.getD k 0)) (cn .f32 (ys.getD k 0))
def addR (W H : Int) (n : Nat) (xs : List Nat) (W' H' : Int) (m : Nat) (ys : List Nat) : HillR :=
  if validB W H n xs && (validB W' H' m ys && (decide (W = W') && decide (H = H'))) then madeR W.toNat H.toNat (addF xs ys) else noR
theorem addR_n (W H : Int) (n : Nat) (xs : List Nat) (W' H' : Int) (m : Nat) (ys : List Nat) : (addR W H n xs W' H' m ys).n ≤ 1048576 := by
  unfold addR
  cases hv : validB W H n xs with
  | false => simp [noR]
  | true =>
    obtain ⟨a, b, rfl, rfl, h1, h2, h3, h4, _, _⟩ := valid_nat hv
    split
    · simpa using madeR_n (by omega) (by omega)
    · simp [noR]
theorem iAddHow (w0 : World) (bx by' : Nat) (a b : Nat) (ha1 : 1 ≤ a) (ha2 : a ≤ 16) (hb1 : 1 ≤ b) (hb2 : b ≤ 16) (bo off c bo' off' c' : Nat) (xs ys : List Nat)
    (hX : HBox w0 bx a b (.slice (some ⟨bo, off, none⟩) (b * a) c)) (hA : FRow w0 (some ⟨bo, off, none⟩) (b * a) xs) (hZ : HBox w0 by' a b (.slice (some ⟨bo', off', none⟩) (b * a) c')) (hC : FRow w0 (some ⟨bo', off', none⟩) (b * a) ys) :
    HowGives 66 #[.pointer (some ⟨bx, 0, none⟩), .pointer (some ⟨by', 0, none⟩)] a w0 (addF xs ys) (b * a) := by
  intro x y w hx hk hB
  have hX' := Lib.hid (HBox.bel hX hB)
  have hZ' := Lib.hid (HBox.bel hZ hB)
  have hA' := Lib.hid (hA.bel hB)
  have hC' := Lib.hid (hC.bel hB)
  have hk' := Lib.hid hk
  have h256 : b * a ≤ 256 := Nat.mul_le_mul hb2 ha2
  have hya : y * a ≤ 256 := by omega
  obtain ⟨p, hp⟩ : ∃ p, p = y * a := ⟨_, rfl⟩
  obtain ⟨m, hm⟩ : ∃ m, m = y * a + x := ⟨_, rfl⟩
  have r1 : IntKind.i64.wrap ((y : Int) * a) = (p : Int) := by rw [hp, ← Int.natCast_mul]; exact IntWalk.i64_in _ (by omega)
  have r2 : IntKind.i64.wrap ((p : Int) + x) = (m : Int) := by rw [hm, ← hp, ← Int.natCast_add]; exact IntWalk.i64_in _ (by omega)
  have hmlt : m < b * a := by omega
  have hmi : (m : Int) < (b : Int) * (a : Int) := by rw [← Int.natCast_mul]; omega
  have hr : Is .f32 (xs.getD m 0) (cn .f32 (xs.getD m 0)) := hA.is hmlt
  have hs : Is .f32 (ys.getD m 0) (cn .f32 (ys.getD m 0)) := hC.is hmlt
  obtain ⟨X, hXd⟩ : ∃ X, X = xs.getD m 0 := ⟨_, rfl⟩
  obtain ⟨Y, hYd⟩ : ∃ Y, Y = ys.getD m 0 := ⟨_, rfl⟩
  have eg : addF xs ys (y * a + x) = fop .add .f32 (cn .f32 X) (cn .f32 Y) := by unfold addF; rw [hXd, hYd, hm]
  rw [eg]
  rw [← hXd] at hr
  rw [← hYd] at hs
  have hXd' := Lib.hid hXd
  have hYd' := Lib.hid hYd
  clear hp hm hA hX hB hk hC hZ hXd hYd eg hya
  go_enter Try.func66, Try.ntmps66
  go_wp2_with fail
  (refine Rk.region_K (Le := Bel) [0, 1, 2, 3, 4, 5, 6, 7, 8, 9, 10, 11, 12, 13, 14, 15, 16, 17, 18, 19, 20] [21] Rk.good_bel (by kernel_rfl) (by kernel_rfl) (by kernel_rfl) (by kernel_rfl) ?_; (try simp only [Rk.pick, List.getElem?_cons_succ, List.getElem?_cons_zero, Option.toList_some, List.cons_append, List.nil_append, List.map_cons, List.map_nil]))
  repeat (first | ((with_reducible refine Rk.wpR_move Rk.good_bel (S := ?_) ?_ ?_ ?_ ?_); (first | exact Rk.yes_none | exact Rk.yes_some rfl rfl); rotate_left 2; (simp only [Rk.slotS, List.getD_cons_succ, List.getD_cons_zero]; rfl); rotate_left 1; (first | exact Rk.mon_is1 _ | exact Rk.mon_isF _ _ | assumption); (try simp only [Rk.upd, List.set_cons_succ, List.set_cons_zero])) | ((with_reducible refine Rk.wpR_assign Rk.good_bel (S := ?_) ?_ ?_ ?_ ?_); (first | exact Rk.yes_none | exact Rk.yes_some rfl rfl); rotate_left 2; (simp only [Rk.slotS, List.getD_cons_succ, List.getD_cons_zero]; rfl); rotate_left 1; (first | exact Rk.mon_is1 _ | exact Rk.mon_isF _ _ | assumption); (try simp only [Rk.upd, List.set_cons_succ, List.set_cons_zero])) | ((with_reducible refine Rk.wpR_skip (d := ?_) (c := ?_) ?_ ?_ ?_ ?_); rotate_left 2; rfl; rfl; rfl; (try simp only [Rk.upd, List.set_cons_succ, List.set_cons_zero])) | ((with_reducible refine Rk.wpR_pickT Rk.good_bel (S := ?_) ?_ ?_ ?_ ?_ ?_); (first | exact Rk.yes_none | exact Rk.yes_some rfl rfl); rotate_left 2; rfl; (simp only [Rk.slotS, List.getD_cons_succ, List.getD_cons_zero]; rfl); rotate_left 1; (first | exact Rk.mon_is1 _ | exact Rk.mon_isF _ _ | assumption); (try simp only [Rk.upd, List.set_cons_succ, List.set_cons_zero])) | ((with_reducible refine Rk.wpR_pickF Rk.good_bel (S := ?_) ?_ ?_ ?_ ?_ ?_); (first | exact Rk.yes_none | exact Rk.yes_some rfl rfl); rotate_left 2; rfl; (simp only [Rk.slotS, List.getD_cons_succ, List.getD_cons_zero]; rfl); rotate_left 1; (first | exact Rk.mon_is1 _ | exact Rk.mon_isF _ _ | assumption); (try simp only [Rk.upd, List.set_cons_succ, List.set_cons_zero])) | ((with_reducible refine Rk.wpR_widen Rk.good_bel Try.underlying32 Try.underlying56 (X := ?_) (S := ?_) ?_ ?_ ?_ ?_); rotate_left 2; (first | exact Rk.yes_none | exact Rk.yes_some rfl rfl); (simp only [Rk.slotS, List.getD_cons_succ, List.getD_cons_zero]; rfl); (first | exact Rk.subF_is _ _ | (refine Rk.subF_eq ?_; (first | assumption | ((refine Is.lit ?_); decide +kernel) | (refine Is.ofInt _ _)))); (try simp only [Rk.upd, List.set_cons_succ, List.set_cons_zero])) | ((with_reducible refine Rk.wpR_fadd Rk.good_bel (k := ?_) (X := ?_) (Y := ?_) (S := ?_) (T := ?_) ?_ ?_ ?_ ?_ ?_ ?_); rotate_left 5; (first | exact Rk.yes_none | exact Rk.yes_some rfl rfl); (simp only [Rk.slotS, List.getD_cons_succ, List.getD_cons_zero]; rfl); (simp only [Rk.slotS, List.getD_cons_succ, List.getD_cons_zero]; rfl); (first | exact Rk.subF_is _ _ | (refine Rk.subF_eq ?_; (first | assumption | ((refine Is.lit ?_); decide +kernel) | (refine Is.ofInt _ _)))); (first | exact Rk.subF_is _ _ | (refine Rk.subF_eq ?_; (first | assumption | ((refine Is.lit ?_); decide +kernel) | (refine Is.ofInt _ _)))); (try simp only [Rk.upd, List.set_cons_succ, List.set_cons_zero])) | ((with_reducible refine Rk.wpR_fsub Rk.good_bel (k := ?_) (X := ?_) (Y := ?_) (S := ?_) (T := ?_) ?_ ?_ ?_ ?_ ?_ ?_); rotate_left 5; (first | exact Rk.yes_none | exact Rk.yes_some rfl rfl); (simp only [Rk.slotS, List.getD_cons_succ, List.getD_cons_zero]; rfl); (simp only [Rk.slotS, List.getD_cons_succ, List.getD_cons_zero]; rfl); (first | exact Rk.subF_is _ _ | (refine Rk.subF_eq ?_; (first | assumption | ((refine Is.lit ?_); decide +kernel) | (refine Is.ofInt _ _)))); (first | exact Rk.subF_is _ _ | (refine Rk.subF_eq ?_; (first | assumption | ((refine Is.lit ?_); decide +kernel) | (refine Is.ofInt _ _)))); (try simp only [Rk.upd, List.set_cons_succ, List.set_cons_zero])) | ((with_reducible refine Rk.wpR_fmul Rk.good_bel (k := ?_) (X := ?_) (Y := ?_) (S := ?_) (T := ?_) ?_ ?_ ?_ ?_ ?_ ?_); rotate_left 5; (first | exact Rk.yes_none | exact Rk.yes_some rfl rfl); (simp only [Rk.slotS, List.getD_cons_succ, List.getD_cons_zero]; rfl); (simp only [Rk.slotS, List.getD_cons_succ, List.getD_cons_zero]; rfl); (first | exact Rk.subF_is _ _ | (refine Rk.subF_eq ?_; (first | assumption | ((refine Is.lit ?_); decide +kernel) | (refine Is.ofInt _ _)))); (first | exact Rk.subF_is _ _ | (refine Rk.subF_eq ?_; (first | assumption | ((refine Is.lit ?_); decide +kernel) | (refine Is.ofInt _ _)))); (try simp only [Rk.upd, List.set_cons_succ, List.set_cons_zero])) | ((with_reducible refine Rk.wpR_fquo Rk.good_bel (k := ?_) (X := ?_) (Y := ?_) (S := ?_) (T := ?_) ?_ ?_ ?_ ?_ ?_ ?_); rotate_left 5; (first | exact Rk.yes_none | exact Rk.yes_some rfl rfl); (simp only [Rk.slotS, List.getD_cons_succ, List.getD_cons_zero]; rfl); (simp only [Rk.slotS, List.getD_cons_succ, List.getD_cons_zero]; rfl); (first | exact Rk.subF_is _ _ | (refine Rk.subF_eq ?_; (first | assumption | ((refine Is.lit ?_); decide +kernel) | (refine Is.ofInt _ _)))); (first | exact Rk.subF_is _ _ | (refine Rk.subF_eq ?_; (first | assumption | ((refine Is.lit ?_); decide +kernel) | (refine Is.ofInt _ _)))); (try simp only [Rk.upd, List.set_cons_succ, List.set_cons_zero])) | ((with_reducible refine Rk.wpR_feq Rk.good_bel (k := ?_) (X := ?_) (Y := ?_) (S := ?_) (T := ?_) ?_ ?_ ?_ ?_ ?_ ?_); rotate_left 5; (first | exact Rk.yes_none | exact Rk.yes_some rfl rfl); (simp only [Rk.slotS, List.getD_cons_succ, List.getD_cons_zero]; rfl); (simp only [Rk.slotS, List.getD_cons_succ, List.getD_cons_zero]; rfl); (first | exact Rk.subF_is _ _ | (refine Rk.subF_eq ?_; (first | assumption | ((refine Is.lit ?_); decide +kernel) | (refine Is.ofInt _ _)))); (first | exact Rk.subF_is _ _ | (refine Rk.subF_eq ?_; (first | assumption | ((refine Is.lit ?_); decide +kernel) | (refine Is.ofInt _ _)))); (try simp only [Rk.upd, List.set_cons_succ, List.set_cons_zero])) | ((with_reducible refine Rk.wpR_fne Rk.good_bel (k := ?_) (X := ?_) (Y := ?_) (S := ?_) (T := ?_) ?_ ?_ ?_ ?_ ?_ ?_); rotate_left 5; (first | exact Rk.yes_none | exact Rk.yes_some rfl rfl); (simp only [Rk.slotS, List.getD_cons_succ, List.getD_cons_zero]; rfl); (simp only [Rk.slotS, List.getD_cons_succ, List.getD_cons_zero]; rfl); (first | exact Rk.subF_is _ _ | (refine Rk.subF_eq ?_; (first | assumption | ((refine Is.lit ?_); decide +kernel) | (refine Is.ofInt _ _)))); (first | exact Rk.subF_is _ _ | (refine Rk.subF_eq ?_; (first | assumption | ((refine Is.lit ?_); decide +kernel) | (refine Is.ofInt _ _)))); (try simp only [Rk.upd, List.set_cons_succ, List.set_cons_zero])) | ((with_reducible refine Rk.wpR_flt Rk.good_bel (k := ?_) (X := ?_) (Y := ?_) (S := ?_) (T := ?_) ?_ ?_ ?_ ?_ ?_ ?_); rotate_left 5; (first | exact Rk.yes_none | exact Rk.yes_some rfl rfl); (simp only [Rk.slotS, List.getD_cons_succ, List.getD_cons_zero]; rfl); (simp only [Rk.slotS, List.getD_cons_succ, List.getD_cons_zero]; rfl); (first | exact Rk.subF_is _ _ | (refine Rk.subF_eq ?_; (first | assumption | ((refine Is.lit ?_); decide +kernel) | (refine Is.ofInt _ _)))); (first | exact Rk.subF_is _ _ | (refine Rk.subF_eq ?_; (first | assumption | ((refine Is.lit ?_); decide +kernel) | (refine Is.ofInt _ _)))); (try simp only [Rk.upd, List.set_cons_succ, List.set_cons_zero])) | ((with_reducible refine Rk.wpR_fgt Rk.good_bel (k := ?_) (X := ?_) (Y := ?_) (S := ?_) (T := ?_) ?_ ?_ ?_ ?_ ?_ ?_); rotate_left 5; (first | exact Rk.yes_none | exact Rk.yes_some rfl rfl); (simp only [Rk.slotS, List.getD_cons_succ, List.getD_cons_zero]; rfl); (simp only [Rk.slotS, List.getD_cons_succ, List.getD_cons_zero]; rfl); (first | exact Rk.subF_is _ _ | (refine Rk.subF_eq ?_; (first | assumption | ((refine Is.lit ?_); decide +kernel) | (refine Is.ofInt _ _)))); (first | exact Rk.subF_is _ _ | (refine Rk.subF_eq ?_; (first | assumption | ((refine Is.lit ?_); decide +kernel) | (refine Is.ofInt _ _)))); (try simp only [Rk.upd, List.set_cons_succ, List.set_cons_zero])) | ((with_reducible refine Rk.wpR_fge Rk.good_bel (k := ?_) (X := ?_) (Y := ?_) (S := ?_) (T := ?_) ?_ ?_ ?_ ?_ ?_ ?_); rotate_left 5; (first | exact Rk.yes_none | exact Rk.yes_some rfl rfl); (simp only [Rk.slotS, List.getD_cons_succ, List.getD_cons_zero]; rfl); (simp only [Rk.slotS, List.getD_cons_succ, List.getD_cons_zero]; rfl); (first | exact Rk.subF_is _ _ | (refine Rk.subF_eq ?_; (first | assumption | ((refine Is.lit ?_); decide +kernel) | (refine Is.ofInt _ _)))); (first | exact Rk.subF_is _ _ | (refine Rk.subF_eq ?_; (first | assumption | ((refine Is.lit ?_); decide +kernel) | (refine Is.ofInt _ _)))); (try simp only [Rk.upd, List.set_cons_succ, List.set_cons_zero])) | ((with_reducible refine Rk.wpR_fle Rk.good_bel (k := ?_) (X := ?_) (Y := ?_) (S := ?_) (T := ?_) ?_ ?_ ?_ ?_ ?_ ?_); rotate_left 5; (first | exact Rk.yes_none | exact Rk.yes_some rfl rfl); (simp only [Rk.slotS, List.getD_cons_succ, List.getD_cons_zero]; rfl); (simp only [Rk.slotS, List.getD_cons_succ, List.getD_cons_zero]; rfl); (first | exact Rk.subF_is _ _ | (refine Rk.subF_eq ?_; (first | assumption | ((refine Is.lit ?_); decide +kernel) | (refine Is.ofInt _ _)))); (first | exact Rk.subF_is _ _ | (refine Rk.subF_eq ?_; (first | assumption | ((refine Is.lit ?_); decide +kernel) | (refine Is.ofInt _ _)))); (try simp only [Rk.upd, List.set_cons_succ, List.set_cons_zero])) | ((with_reducible refine Rk.wpR_indexAddr Rk.good_bel (v := ?_) (v' := ?_) (u := ?_) ?_ ?_ ?_ ?_ ?_); rotate_left 3; (first | exact Rk.yes_none | exact Rk.yes_some rfl rfl); (simp only [Rk.slotS, List.getD_cons_succ, List.getD_cons_zero]; rfl); (simp only [Rk.slotS, List.getD_cons_succ, List.getD_cons_zero]; rfl); (intro ρ w' hw hK1 hK2; go_simp; rfl); (try simp only [Rk.upd, List.set_cons_succ, List.set_cons_zero])) | ((with_reducible refine Rk.wpR_binOp Rk.good_bel (v := ?_) (v' := ?_) (u := ?_) ?_ ?_ ?_ ?_ ?_); rotate_left 3; (first | exact Rk.yes_none | exact Rk.yes_some rfl rfl); (simp only [Rk.slotS, List.getD_cons_succ, List.getD_cons_zero]; rfl); (simp only [Rk.slotS, List.getD_cons_succ, List.getD_cons_zero]; rfl); (intro ρ w' hw hK1 hK2; go_simp; rfl); (try simp only [Rk.upd, List.set_cons_succ, List.set_cons_zero])) | ((with_reducible refine Rk.wpR_load Rk.good_bel (v := ?_) (u := ?_) ?_ ?_ ?_ ?_); rotate_left 2; (first | exact Rk.yes_none | exact Rk.yes_some rfl rfl); (simp only [Rk.slotS, List.getD_cons_succ, List.getD_cons_zero]; rfl); (intro ρ w' hw hK1; obtain ⟨_, k0, k1, k2⟩ := HBox.bel hX'.out hw; have kk := frow_cell hA'.out hw hmlt; rw [← hXd'.out] at kk; obtain ⟨_, l0, l1, l2⟩ := HBox.bel hZ'.out hw; have ll := frow_cell hC'.out hw hmlt; rw [← hYd'.out] at ll; go_simp; rfl); (try simp only [Rk.upd, List.set_cons_succ, List.set_cons_zero])) | ((with_reducible refine Rk.wpR_unOp Rk.good_bel (v := ?_) (u := ?_) ?_ ?_ ?_ ?_); rotate_left 2; (first | exact Rk.yes_none | exact Rk.yes_some rfl rfl); (simp only [Rk.slotS, List.getD_cons_succ, List.getD_cons_zero]; rfl); (intro ρ w' hw hK1; go_simp; rfl); (try simp only [Rk.upd, List.set_cons_succ, List.set_cons_zero])) | ((with_reducible refine Rk.wpR_convert Rk.good_bel (v := ?_) (u := ?_) ?_ ?_ ?_ ?_); rotate_left 2; (first | exact Rk.yes_none | exact Rk.yes_some rfl rfl); (simp only [Rk.slotS, List.getD_cons_succ, List.getD_cons_zero]; rfl); (intro ρ w' hw hK1; go_simp; rfl); (try simp only [Rk.upd, List.set_cons_succ, List.set_cons_zero])) | ((with_reducible refine Rk.wpR_field Rk.good_bel (v := ?_) (u := ?_) ?_ ?_ ?_ ?_); rotate_left 2; (first | exact Rk.yes_none | exact Rk.yes_some rfl rfl); (simp only [Rk.slotS, List.getD_cons_succ, List.getD_cons_zero]; rfl); (intro ρ w' hw hK1; go_simp; rfl); (try simp only [Rk.upd, List.set_cons_succ, List.set_cons_zero])) | ((with_reducible refine Rk.wpR_fieldAddr Rk.good_bel (v := ?_) (u := ?_) ?_ ?_ ?_ ?_); rotate_left 2; (first | exact Rk.yes_none | exact Rk.yes_some rfl rfl); (simp only [Rk.slotS, List.getD_cons_succ, List.getD_cons_zero]; rfl); (intro ρ w' hw hK1; go_simp; rfl); (try simp only [Rk.upd, List.set_cons_succ, List.set_cons_zero])) | ((with_reducible refine Rk.wpR_nilCheck Rk.good_bel (v := ?_) (u := ?_) ?_ ?_ ?_ ?_); rotate_left 2; (first | exact Rk.yes_none | exact Rk.yes_some rfl rfl); (simp only [Rk.slotS, List.getD_cons_succ, List.getD_cons_zero]; rfl); (intro ρ w' hw hK1; go_simp; rfl); (try simp only [Rk.upd, List.set_cons_succ, List.set_cons_zero])) | ((with_reducible refine Rk.wpR_builtin1 Rk.good_bel (v := ?_) (u := ?_) ?_ ?_ ?_ ?_); rotate_left 2; (first | exact Rk.yes_none | exact Rk.yes_some rfl rfl); (simp only [Rk.slotS, List.getD_cons_succ, List.getD_cons_zero]; rfl); (intro ρ w' hw hK1; go_simp; rfl); (try simp only [Rk.upd, List.set_cons_succ, List.set_cons_zero])) | ((with_reducible refine Rk.wpR_extract Rk.good_bel (v := ?_) (u := ?_) ?_ ?_ ?_ ?_); rotate_left 2; (first | exact Rk.yes_none | exact Rk.yes_some rfl rfl); (simp only [Rk.slotS, List.getD_cons_succ, List.getD_cons_zero]; rfl); (intro ρ w' hw hK1; go_simp; rfl); (try simp only [Rk.upd, List.set_cons_succ, List.set_cons_zero])))
  refine Rk.wpR_end ?_
  intro wK hwK
  repeat (first | refine Rk.all2_is1 ?_ | (refine Rk.all2_isF ?_; intro r0 hr0))
  refine Rk.all2_nil ?_
  go_wp2
  go_ret
  exact ⟨_, rfl, hwK, _, rfl, ‹_›⟩
set_option maxRecDepth 100000 in
set_option maxHeartbeats 8000000 in
theorem iAddHills_any (w : World) (W H : Int) (ao : Option Addr) (n c : Nat) (xs : List Nat) (W2 H2 : Int) (ao2 : Option Addr) (n2 c2 : Nat) (ys : List Nat) (hA : FRow w ao n xs) (hC : FRow w ao2 n2 ys) (hm : n ≤ 1048576) (hm2 : n2 ≤ 1048576) :
    Calls Try.prog 29 #[hillV W H ao n c, hillV W2 H2 ao2 n2 c2] w (HRet (addR W H n xs W2 H2 n2 ys) w) := by
  have hA' := Lib.hid (((hA.alloc (.cells #[.int .i64 W, .int .i64 H, .slice ao n c] 27)).alloc (.cells #[.int .i64 W2, .int .i64 H2, .slice ao2 n2 c2] 27)).alloc resO)
  have hC' := Lib.hid (((hC.alloc (.cells #[.int .i64 W, .int .i64 H, .slice ao n c] 27)).alloc (.cells #[.int .i64 W2, .int .i64 H2, .slice ao2 n2 c2] 27)).alloc resO)
  have hX := Lib.hid (((hbox_new w W H (.slice ao n c) 27).alloc (.cells #[.int .i64 W2, .int .i64 H2, .slice ao2 n2 c2] 27)).alloc resO)
  have hZ := Lib.hid ((hbox_at (w.alloc (.cells #[.int .i64 W, .int .i64 H, .slice ao n c] 27)) (w.heap.size + 1) (by simp) W2 H2 (.slice ao2 n2 c2) 27).alloc resO)
  have hY := Lib.hid (rbox_at ((w.alloc (.cells #[.int .i64 W, .int .i64 H, .slice ao n c] 27)).alloc (.cells #[.int .i64 W2, .int .i64 H2, .slice ao2 n2 c2] 27)) (w.heap.size + 1 + 1) (by simp))
  have hW := Lib.hid ((((Bel.refl w).alloc (.cells #[.int .i64 W, .int .i64 H, .slice ao n c] 27)).alloc (.cells #[.int .i64 W2, .int .i64 H2, .slice ao2 n2 c2] 27)).alloc resO)
  have hat := hA.at0
  have hct := hC.at0
  clear hA hC
  cases hv : validB W H n xs with
  | false =>
    have hR := Lib.hid (show addR W H n xs W2 H2 n2 ys = noR by unfold addR; rw [hv]; rfl)
    replace hv := Lib.hid hv
    go_enter Try.func29, Try.ntmps29
    go_wp2_with fail
    refine (iValidHill_any _ W H _ _ _ xs hA'.out (by omega)).mono ?_
    rintro e w1 ⟨rfl, hB⟩
    rw [hv.out]
    replace hA' := Lib.hid (hA'.out.bel hB)
    replace hC' := Lib.hid (hC'.out.bel hB)
    replace hX := Lib.hid (hX.out.bel hB)
    replace hZ := Lib.hid (hZ.out.bel hB)
    replace hY := Lib.hid (hY.out.bel hB)
    replace hW := Lib.hid (hW.out.trans hB)
    clear hB
    obtain ⟨y0, y1, y2, f0, f1, f2⟩ := rbox_facts hY.out
    go_wp2_with fail
    refine bodyPost_ret (v := .tuple #[hillV 0 0 none 0 0, .bool false]) (by simp [results, Try.results29, go_sem, y0, y1, y2]) rfl (hret_no hR.out ?_)
    exact ((hW.out.setCell (by simp; omega) _).setCell (by simp; omega) _).setCell (by simp; omega) _
  | true =>
    obtain ⟨a, b, rfl, rfl, ha1, ha2, hb1, hb2, rfl, hf⟩ := valid_nat hv
    cases hv2 : validB W2 H2 n2 ys with
    | false =>
      have hR := Lib.hid (show addR a b (b * a) xs W2 H2 n2 ys = noR by unfold addR; rw [hv, hv2]; rfl)
      replace hv := Lib.hid hv
      replace hv2 := Lib.hid hv2
      go_enter Try.func29, Try.ntmps29
      go_wp2_with fail
      refine (iValidHill_any _ a b _ _ _ xs hA'.out (by omega)).mono ?_
      rintro e w1 ⟨rfl, hB⟩
      rw [hv.out]
      replace hA' := Lib.hid (hA'.out.bel hB)
      replace hC' := Lib.hid (hC'.out.bel hB)
      replace hX := Lib.hid (hX.out.bel hB)
      replace hZ := Lib.hid (hZ.out.bel hB)
      replace hY := Lib.hid (hY.out.bel hB)
      replace hW := Lib.hid (hW.out.trans hB)
      clear hB
      obtain ⟨_, x0, x1, x2⟩ := hX.out
      obtain ⟨_, z0, z1, z2⟩ := hZ.out
      go_wp2_with fail
      refine (iValidHill_any _ W2 H2 _ _ _ ys hC'.out (by omega)).mono ?_
      rintro e w2 ⟨rfl, hB⟩
      rw [hv2.out]
      clear x0 x1 x2 z0 z1 z2
      replace hA' := Lib.hid (hA'.out.bel hB)
      replace hC' := Lib.hid (hC'.out.bel hB)
      replace hX := Lib.hid (hX.out.bel hB)
      replace hZ := Lib.hid (hZ.out.bel hB)
      replace hY := Lib.hid (hY.out.bel hB)
      replace hW := Lib.hid (hW.out.trans hB)
      clear hB
      obtain ⟨y0, y1, y2, f0, f1, f2⟩ := rbox_facts hY.out
      go_wp2_with fail
      refine bodyPost_ret (v := .tuple #[hillV 0 0 none 0 0, .bool false]) (by simp [results, Try.results29, go_sem, y0, y1, y2]) rfl (hret_no hR.out ?_)
      exact ((hW.out.setCell (by simp; omega) _).setCell (by simp; omega) _).setCell (by simp; omega) _
    | true =>
      obtain ⟨a2, b2, rfl, rfl, ga1, ga2, gb1, gb2, rfl, gf⟩ := valid_nat hv2
      by_cases hab : a = a2 ∧ b = b2
      · obtain ⟨rfl, rfl⟩ := hab
        have hR := Lib.hid (show addR a b (b * a) xs a b (b * a) ys = madeR a b (addF xs ys) by unfold addR; rw [hv, hv2]; simp)
        have hpos : 0 < b * a := Nat.mul_pos (by omega) (by omega)
        have h256 : b * a ≤ 256 := Nat.mul_le_mul hb2 ha2
        obtain ⟨bo, off, rfl, hbo, _⟩ := hat hpos
        obtain ⟨bo2, off2, rfl, hbo2, _⟩ := hct hpos
        have hbo2' := Lib.hid hbo2
        clear hat hct hf gf hbo hbo2
        replace hv := Lib.hid hv
        replace hv2 := Lib.hid hv2
        go_enter Try.func29, Try.ntmps29
        go_wp2_with fail
        refine (iValidHill_any _ a b _ _ _ xs hA'.out (by omega)).mono ?_
        rintro e w1 ⟨rfl, hB⟩
        rw [hv.out]
        replace hA' := Lib.hid (hA'.out.bel hB)
        replace hC' := Lib.hid (hC'.out.bel hB)
        replace hX := Lib.hid (hX.out.bel hB)
        replace hZ := Lib.hid (hZ.out.bel hB)
        replace hY := Lib.hid (hY.out.bel hB)
        replace hW := Lib.hid (hW.out.trans hB)
        clear hB
        obtain ⟨_, x0, x1, x2⟩ := hX.out
        obtain ⟨_, z0, z1, z2⟩ := hZ.out
        go_wp2_with fail
        refine (iValidHill_any _ a b _ _ _ ys hC'.out (by omega)).mono ?_
        rintro e w2 ⟨rfl, hB⟩
        rw [hv2.out]
        clear x0 x1 x2 z0 z1 z2
        replace hA' := Lib.hid (hA'.out.bel hB)
        replace hC' := Lib.hid (hC'.out.bel hB)
        replace hX := Lib.hid (hX.out.bel hB)
        replace hZ := Lib.hid (hZ.out.bel hB)
        replace hY := Lib.hid (hY.out.bel hB)
        replace hW := Lib.hid (hW.out.trans hB)
        clear hB
        obtain ⟨_, x0, x1, x2⟩ := hX.out
        obtain ⟨_, z0, z1, z2⟩ := hZ.out
        go_wp2_with fail
        refine (made_any w2 a b ha1 ha2 hb1 hb2 66 #[.pointer (some ⟨w.heap.size, 0, none⟩), .pointer (some ⟨w.heap.size + 1, 0, none⟩)] (Rg.enters Try.func66 (by kernel_rfl) (by kernel_rfl)) (addF xs ys) (iAddHow w2 w.heap.size (w.heap.size + 1) a b ha1 ha2 hb1 hb2 bo off c bo2 off2 c2 xs ys hX.out hA'.out hZ.out hC'.out)).mono ?_
        rintro e w3 ⟨ao3, c3, ws, rfl, hO, hG, hB3⟩
        obtain ⟨y0, y1, y2, f0, f1, f2⟩ := rbox_facts (hY.out.bel hB3)
        have hO' := Lib.hid hO
        have hG' := Lib.hid hG
        have hB3' := Lib.hid hB3
        clear hO hG hB3 x0 x1 x2 z0 z1 z2
        rw [← hR.out] at *
        go_wp2_with fail
        refine bodyPost_ret (v := .tuple #[hillV (addR a b (b * a) xs a b (b * a) ys).W (addR a b (b * a) xs a b (b * a) ys).H ao3 (addR a b (b * a) xs a b (b * a) ys).n c3, .bool (addR a b (b * a) xs a b (b * a) ys).ok]) (by simp [results, Try.results29, go_sem, y0, y1, y2]) rfl ?_
        refine hret_set3 rfl rfl rfl rfl (hO'.out.mono hW.out.size (Nat.le_refl _)) (fun a ha => ?_) hG'.out (hW.out.trans hB3'.out) (by omega)
        have := (hO'.out.own a ha).1; have := hY.out.1; omega
      · have hR := Lib.hid (show addR a b (b * a) xs a2 b2 (b2 * a2) ys = noR by
          unfold addR; rw [hv, hv2]
          have : (decide ((a : Int) = a2) && decide ((b : Int) = b2)) = false := by
            rcases Decidable.em (a = a2) with e | e
            · rw [decide_eq_false (fun h => hab ⟨e, by omega⟩ : ¬ ((b : Int) = b2))]; simp
            · rw [decide_eq_false (by omega : ¬ ((a : Int) = a2))]; simp
          rw [this]; rfl)
        replace hv := Lib.hid hv
        replace hv2 := Lib.hid hv2
        by_cases e1 : a = a2
        · subst e1
          have e2 : ((b : Int) == b2) = false := by simp; omega
          have e2' : ¬ b = b2 := by omega
          clear hab
          go_enter Try.func29, Try.ntmps29
          go_wp2_with fail
          refine (iValidHill_any _ a b _ _ _ xs hA'.out (by omega)).mono ?_
          rintro e w1 ⟨rfl, hB⟩
          rw [hv.out]
          replace hA' := Lib.hid (hA'.out.bel hB)
          replace hC' := Lib.hid (hC'.out.bel hB)
          replace hX := Lib.hid (hX.out.bel hB)
          replace hZ := Lib.hid (hZ.out.bel hB)
          replace hY := Lib.hid (hY.out.bel hB)
          replace hW := Lib.hid (hW.out.trans hB)
          clear hB
          obtain ⟨_, x0, x1, x2⟩ := hX.out
          obtain ⟨_, z0, z1, z2⟩ := hZ.out
          go_wp2_with fail
          refine (iValidHill_any _ a b2 _ _ _ ys hC'.out (by omega)).mono ?_
          rintro e w2 ⟨rfl, hB⟩
          rw [hv2.out]
          clear x0 x1 x2 z0 z1 z2
          replace hA' := Lib.hid (hA'.out.bel hB)
          replace hC' := Lib.hid (hC'.out.bel hB)
          replace hX := Lib.hid (hX.out.bel hB)
          replace hZ := Lib.hid (hZ.out.bel hB)
          replace hY := Lib.hid (hY.out.bel hB)
          replace hW := Lib.hid (hW.out.trans hB)
          clear hB
          obtain ⟨_, x0, x1, x2⟩ := hX.out
          obtain ⟨_, z0, z1, z2⟩ := hZ.out
          obtain ⟨y0, y1, y2, f0, f1, f2⟩ := rbox_facts hY.out
          go_wp2_with fail
          refine bodyPost_ret (v := .tuple #[hillV 0 0 none 0 0, .bool false]) (by simp [results, Try.results29, go_sem, y0, y1, y2]) rfl (hret_no hR.out ?_)
          exact ((hW.out.setCell (by simp; omega) _).setCell (by simp; omega) _).setCell (by simp; omega) _
        · have e2 : ((a : Int) == a2) = false := by simp; omega
          clear hab
          go_enter Try.func29, Try.ntmps29
          go_wp2_with fail
          refine (iValidHill_any _ a b _ _ _ xs hA'.out (by omega)).mono ?_
          rintro e w1 ⟨rfl, hB⟩
          rw [hv.out]
          replace hA' := Lib.hid (hA'.out.bel hB)
          replace hC' := Lib.hid (hC'.out.bel hB)
          replace hX := Lib.hid (hX.out.bel hB)
          replace hZ := Lib.hid (hZ.out.bel hB)
          replace hY := Lib.hid (hY.out.bel hB)
          replace hW := Lib.hid (hW.out.trans hB)
          clear hB
          obtain ⟨_, x0, x1, x2⟩ := hX.out
          obtain ⟨_, z0, z1, z2⟩ := hZ.out
          go_wp2_with fail
          refine (iValidHill_any _ a2 b2 _ _ _ ys hC'.out (by omega)).mono ?_
          rintro e w2 ⟨rfl, hB⟩
          rw [hv2.out]
          clear x0 x1 x2 z0 z1 z2
          replace hA' := Lib.hid (hA'.out.bel hB)
          replace hC' := Lib.hid (hC'.out.bel hB)
          replace hX := Lib.hid (hX.out.bel hB)
          replace hZ := Lib.hid (hZ.out.bel hB)
          replace hY := Lib.hid (hY.out.bel hB)
          replace hW := Lib.hid (hW.out.trans hB)
          clear hB
          obtain ⟨_, x0, x1, x2⟩ := hX.out
          obtain ⟨_, z0, z1, z2⟩ := hZ.out
          obtain ⟨y0, y1, y2, f0, f1, f2⟩ := rbox_facts hY.out
          go_wp2_with fail
          refine bodyPost_ret (v := .tuple #[hillV 0 0 none 0 0, .bool false]) (by simp [results, Try.results29, go_sem, y0, y1, y2]) rfl (hret_no hR.out ?_)
          exact ((hW.out.setCell (by simp; omega) _).setCell (by simp; omega) _).setCell (by simp; omega) _
set_option maxRecDepth 100000 in
set_option maxHeartbeats 8000000 in
theorem sAddHills_any (w : World) (W H : Int) (ao : Option Addr) (n c : Nat) (xs : List Nat) (W2 H2 : Int) (ao2 : Option Addr) (n2 c2 : Nat) (ys : List Nat) (hA : FRow w ao n xs) (hC : FRow w ao2 n2 ys) (hm : n ≤ 1048576) (hm2 : n2 ≤ 1048576) :
    Calls Try.prog 28 #[hillV W H ao n c, hillV W2 H2 ao2 n2 c2] w (HRet (addR W H n xs W2 H2 n2 ys) w) := by
  have hA' := Lib.hid (((hA.alloc (.cells #[.int .i64 W, .int .i64 H, .slice ao n c] 27)).alloc (.cells #[.int .i64 W2, .int .i64 H2, .slice ao2 n2 c2] 27)).alloc resO)
  have hC' := Lib.hid (((hC.alloc (.cells #[.int .i64 W, .int .i64 H, .slice ao n c] 27)).alloc (.cells #[.int .i64 W2, .int .i64 H2, .slice ao2 n2 c2] 27)).alloc resO)
  have hX := Lib.hid (((hbox_new w W H (.slice ao n c) 27).alloc (.cells #[.int .i64 W2, .int .i64 H2, .slice ao2 n2 c2] 27)).alloc resO)
  have hZ := Lib.hid ((hbox_at (w.alloc (.cells #[.int .i64 W, .int .i64 H, .slice ao n c] 27)) (w.heap.size + 1) (by simp) W2 H2 (.slice ao2 n2 c2) 27).alloc resO)
  have hY := Lib.hid (rbox_at ((w.alloc (.cells #[.int .i64 W, .int .i64 H, .slice ao n c] 27)).alloc (.cells #[.int .i64 W2, .int .i64 H2, .slice ao2 n2 c2] 27)) (w.heap.size + 1 + 1) (by simp))
  have hW := Lib.hid ((((Bel.refl w).alloc (.cells #[.int .i64 W, .int .i64 H, .slice ao n c] 27)).alloc (.cells #[.int .i64 W2, .int .i64 H2, .slice ao2 n2 c2] 27)).alloc resO)
  have hat := hA.at0
  have hct := hC.at0
  clear hA hC
  cases hv : validB W H n xs with
  | false =>
    have hR := Lib.hid (show addR W H n xs W2 H2 n2 ys = noR by unfold addR; rw [hv]; rfl)
    replace hv := Lib.hid hv
    go_enter Try.func28, Try.ntmps28
    go_wp2_with fail
    refine (l02Is_any _ _ W H _ _ _ xs hX.out hA'.out (by omega)).mono ?_
    rintro e w1 ⟨rfl, hB⟩
    rw [hv.out]
    replace hA' := Lib.hid (hA'.out.bel hB)
    replace hC' := Lib.hid (hC'.out.bel hB)
    replace hX := Lib.hid (hX.out.bel hB)
    replace hZ := Lib.hid (hZ.out.bel hB)
    replace hY := Lib.hid (hY.out.bel hB)
    replace hW := Lib.hid (hW.out.trans hB)
    clear hB
    obtain ⟨y0, y1, y2, f0, f1, f2⟩ := rbox_facts hY.out
    go_wp2_with fail
    refine bodyPost_ret (v := .tuple #[hillV 0 0 none 0 0, .bool false]) (by simp [results, Try.results28, go_sem, y0, y1, y2]) rfl (hret_no hR.out ?_)
    exact ((hW.out.setCell (by simp; omega) _).setCell (by simp; omega) _).setCell (by simp; omega) _
  | true =>
    obtain ⟨a, b, rfl, rfl, ha1, ha2, hb1, hb2, rfl, hf⟩ := valid_nat hv
    cases hv2 : validB W2 H2 n2 ys with
    | false =>
      have hR := Lib.hid (show addR a b (b * a) xs W2 H2 n2 ys = noR by unfold addR; rw [hv, hv2]; rfl)
      replace hv := Lib.hid hv
      replace hv2 := Lib.hid hv2
      go_enter Try.func28, Try.ntmps28
      go_wp2_with fail
      refine (l02Is_any _ _ a b _ _ _ xs hX.out hA'.out (by omega)).mono ?_
      rintro e w1 ⟨rfl, hB⟩
      rw [hv.out]
      replace hA' := Lib.hid (hA'.out.bel hB)
      replace hC' := Lib.hid (hC'.out.bel hB)
      replace hX := Lib.hid (hX.out.bel hB)
      replace hZ := Lib.hid (hZ.out.bel hB)
      replace hY := Lib.hid (hY.out.bel hB)
      replace hW := Lib.hid (hW.out.trans hB)
      clear hB
      obtain ⟨_, x0, x1, x2⟩ := hX.out
      obtain ⟨_, z0, z1, z2⟩ := hZ.out
      go_wp2_with fail
      refine (l02Is_any _ _ W2 H2 _ _ _ ys hZ.out hC'.out (by omega)).mono ?_
      rintro e w2 ⟨rfl, hB⟩
      rw [hv2.out]
      clear x0 x1 x2 z0 z1 z2
      replace hA' := Lib.hid (hA'.out.bel hB)
      replace hC' := Lib.hid (hC'.out.bel hB)
      replace hX := Lib.hid (hX.out.bel hB)
      replace hZ := Lib.hid (hZ.out.bel hB)
      replace hY := Lib.hid (hY.out.bel hB)
      replace hW := Lib.hid (hW.out.trans hB)
      clear hB
      obtain ⟨y0, y1, y2, f0, f1, f2⟩ := rbox_facts hY.out
      go_wp2_with fail
      refine bodyPost_ret (v := .tuple #[hillV 0 0 none 0 0, .bool false]) (by simp [results, Try.results28, go_sem, y0, y1, y2]) rfl (hret_no hR.out ?_)
      exact ((hW.out.setCell (by simp; omega) _).setCell (by simp; omega) _).setCell (by simp; omega) _
    | true =>
      obtain ⟨a2, b2, rfl, rfl, ga1, ga2, gb1, gb2, rfl, gf⟩ := valid_nat hv2
      by_cases hab : a = a2 ∧ b = b2
      · obtain ⟨rfl, rfl⟩ := hab
        have hR := Lib.hid (show addR a b (b * a) xs a b (b * a) ys = madeR a b (addF xs ys) by unfold addR; rw [hv, hv2]; simp)
        have hpos : 0 < b * a := Nat.mul_pos (by omega) (by omega)
        have h256 : b * a ≤ 256 := Nat.mul_le_mul hb2 ha2
        obtain ⟨bo, off, rfl, hbo, _⟩ := hat hpos
        obtain ⟨bo2, off2, rfl, hbo2, _⟩ := hct hpos
        have hbo2' := Lib.hid hbo2
        clear hat hct hf gf hbo hbo2
        replace hv := Lib.hid hv
        replace hv2 := Lib.hid hv2
        go_enter Try.func28, Try.ntmps28
        go_wp2_with fail
        refine (l02Is_any _ _ a b _ _ _ xs hX.out hA'.out (by omega)).mono ?_
        rintro e w1 ⟨rfl, hB⟩
        rw [hv.out]
        replace hA' := Lib.hid (hA'.out.bel hB)
        replace hC' := Lib.hid (hC'.out.bel hB)
        replace hX := Lib.hid (hX.out.bel hB)
        replace hZ := Lib.hid (hZ.out.bel hB)
        replace hY := Lib.hid (hY.out.bel hB)
        replace hW := Lib.hid (hW.out.trans hB)
        clear hB
        obtain ⟨_, x0, x1, x2⟩ := hX.out
        obtain ⟨_, z0, z1, z2⟩ := hZ.out
        go_wp2_with fail
        refine (l02Is_any _ _ a b _ _ _ ys hZ.out hC'.out (by omega)).mono ?_
        rintro e w2 ⟨rfl, hB⟩
        rw [hv2.out]
        clear x0 x1 x2 z0 z1 z2
        replace hA' := Lib.hid (hA'.out.bel hB)
        replace hC' := Lib.hid (hC'.out.bel hB)
        replace hX := Lib.hid (hX.out.bel hB)
        replace hZ := Lib.hid (hZ.out.bel hB)
        replace hY := Lib.hid (hY.out.bel hB)
        replace hW := Lib.hid (hW.out.trans hB)
        clear hB
        obtain ⟨_, x0, x1, x2⟩ := hX.out
        obtain ⟨_, z0, z1, z2⟩ := hZ.out
        go_wp2_with fail
        refine (l02Own_any w2 w.heap.size a b bo off (b * a) c xs hX.out hA'.out hpos hm).mono ?_
        rintro e w3 ⟨g, cap, rfl, hO, hB3⟩
        clear x0 x1 x2 z0 z1 z2
        have hsz2 := hY.out.1
        replace hW := Lib.hid (hW.out.trans hB3)
        replace hY := Lib.hid (hY.out.bel hB3)
        replace hZ := Lib.hid (hZ.out.bel hB3)
        replace hC' := Lib.hid (hC'.out.bel hB3)
        have hO' := Lib.hid (hO.mono (show w.heap.size + 3 ≤ w2.heap.size from hsz2) (Nat.le_refl _))
        clear hO hB3
        obtain ⟨hg1, hg2, _, _⟩ := hO'.out.own _ rfl
        have hg1' := Lib.hid hg1
        have hg2' := Lib.hid hg2
        clear hg1 hg2
        go_wp2
        go_loopw [7] (fun t wr => ∃ i : Nat, i ≤ b * a ∧ t = .int .i64 i ∧ Hid (SRel (w3.alloc (.cells #[.int .i64 a, .int .i64 b, .slice (some ⟨g, 0, none⟩) (b * a) cap] 27)) (w.heap.size + 3) w3.heap.size g (addF xs ys) xs (b * a) i wr)) (fun t _ => b * a - (intOf t).toNat)
        case atStart => exact ⟨0, Nat.zero_le _, rfl, Lib.hid ⟨xs, SSt.start (hO'.out.alloc _)⟩⟩
        case round =>
          obtain ⟨i, hi, rfl, hM⟩ := hrel
          obtain ⟨zs, hS⟩ := hM.out
          have hX1 := Lib.hid (hbox_belx (hbox_new w3 a b (.slice (some ⟨g, 0, none⟩) (b * a) cap) 27) hS.bel (by have := hg2'.out; simp at this ⊢; omega))
          obtain ⟨_, c0, c1, c2⟩ := hX1.out
          by_cases hlt : i < b * a
          · have hi1 : (i : Int) < (b : Int) * (a : Int) := by rw [← Int.natCast_mul]; omega
            have hS' := Lib.hid hS
            have hZ1 := Lib.hid (hbox_belx (hZ.out.alloc (.cells #[.int .i64 a, .int .i64 b, .slice (some ⟨g, 0, none⟩) (b * a) cap] 27)) hS.bel (by have := hg1'.out; simp; omega))
            have hC1 := Lib.hid ((hC'.out.alloc (.cells #[.int .i64 a, .int .i64 b, .slice (some ⟨g, 0, none⟩) (b * a) cap] 27)).belx hS.bel (by intro q hq; cases hq; have := hg1'.out; have := hbo2'.out; simp; omega))
            have hiv : zs.getD i 0 = xs.getD i 0 := hS.left i (Nat.le_refl _) hlt
            obtain ⟨X, hXd⟩ : ∃ X, X = zs.getD i 0 := ⟨_, rfl⟩
            obtain ⟨Z, hZd⟩ : ∃ Z, Z = ys.getD i 0 := ⟨_, rfl⟩
            have hr : Is .f32 X (cn .f32 X) := by rw [hXd]; exact hS.row.row.is hlt
            have hs : Is .f32 Z (cn .f32 Z) := by rw [hZd]; exact hC1.out.is hlt
            have eg : fop .add .f32 (cn .f32 X) (cn .f32 Z) = addF xs ys i := by unfold addF; rw [hXd, hZd, hiv]
            have hXd' := Lib.hid hXd
            have hZd' := Lib.hid hZd
            have eg' := Lib.hid eg
            clear hS hM hiv hXd hZd eg
            go_wp2_with fail
            (refine Rk.region_K (Le := Bel) [0, 1, 2, 3, 4, 5, 6, 7, 8, 9, 10, 11, 12, 13, 14] [15] Rk.good_bel (by kernel_rfl) (by kernel_rfl) (by kernel_rfl) (by kernel_rfl) ?_; (try simp only [Rk.pick, List.getElem?_cons_succ, List.getElem?_cons_zero, Option.toList_some, List.cons_append, List.nil_append, List.map_cons, List.map_nil]))
            repeat (first | ((with_reducible refine Rk.wpR_move Rk.good_bel (S := ?_) ?_ ?_ ?_ ?_); (first | exact Rk.yes_none | exact Rk.yes_some rfl rfl); rotate_left 2; (simp only [Rk.slotS, List.getD_cons_succ, List.getD_cons_zero]; rfl); rotate_left 1; (first | exact Rk.mon_is1 _ | exact Rk.mon_isF _ _ | assumption); (try simp only [Rk.upd, List.set_cons_succ, List.set_cons_zero])) | ((with_reducible refine Rk.wpR_assign Rk.good_bel (S := ?_) ?_ ?_ ?_ ?_); (first | exact Rk.yes_none | exact Rk.yes_some rfl rfl); rotate_left 2; (simp only [Rk.slotS, List.getD_cons_succ, List.getD_cons_zero]; rfl); rotate_left 1; (first | exact Rk.mon_is1 _ | exact Rk.mon_isF _ _ | assumption); (try simp only [Rk.upd, List.set_cons_succ, List.set_cons_zero])) | ((with_reducible refine Rk.wpR_skip (d := ?_) (c := ?_) ?_ ?_ ?_ ?_); rotate_left 2; rfl; rfl; rfl; (try simp only [Rk.upd, List.set_cons_succ, List.set_cons_zero])) | ((with_reducible refine Rk.wpR_pickT Rk.good_bel (S := ?_) ?_ ?_ ?_ ?_ ?_); (first | exact Rk.yes_none | exact Rk.yes_some rfl rfl); rotate_left 2; rfl; (simp only [Rk.slotS, List.getD_cons_succ, List.getD_cons_zero]; rfl); rotate_left 1; (first | exact Rk.mon_is1 _ | exact Rk.mon_isF _ _ | assumption); (try simp only [Rk.upd, List.set_cons_succ, List.set_cons_zero])) | ((with_reducible refine Rk.wpR_pickF Rk.good_bel (S := ?_) ?_ ?_ ?_ ?_ ?_); (first | exact Rk.yes_none | exact Rk.yes_some rfl rfl); rotate_left 2; rfl; (simp only [Rk.slotS, List.getD_cons_succ, List.getD_cons_zero]; rfl); rotate_left 1; (first | exact Rk.mon_is1 _ | exact Rk.mon_isF _ _ | assumption); (try simp only [Rk.upd, List.set_cons_succ, List.set_cons_zero])) | ((with_reducible refine Rk.wpR_widen Rk.good_bel Try.underlying32 Try.underlying56 (X := ?_) (S := ?_) ?_ ?_ ?_ ?_); rotate_left 2; (first | exact Rk.yes_none | exact Rk.yes_some rfl rfl); (simp only [Rk.slotS, List.getD_cons_succ, List.getD_cons_zero]; rfl); (first | exact Rk.subF_is _ _ | (refine Rk.subF_eq ?_; (first | assumption | ((refine Is.lit ?_); decide +kernel) | (refine Is.ofInt _ _)))); (try simp only [Rk.upd, List.set_cons_succ, List.set_cons_zero])) | ((with_reducible refine Rk.wpR_fadd Rk.good_bel (k := ?_) (X := ?_) (Y := ?_) (S := ?_) (T := ?_) ?_ ?_ ?_ ?_ ?_ ?_); rotate_left 5; (first | exact Rk.yes_none | exact Rk.yes_some rfl rfl); (simp only [Rk.slotS, List.getD_cons_succ, List.getD_cons_zero]; rfl); (simp only [Rk.slotS, List.getD_cons_succ, List.getD_cons_zero]; rfl); (first | exact Rk.subF_is _ _ | (refine Rk.subF_eq ?_; (first | assumption | ((refine Is.lit ?_); decide +kernel) | (refine Is.ofInt _ _)))); (first | exact Rk.subF_is _ _ | (refine Rk.subF_eq ?_; (first | assumption | ((refine Is.lit ?_); decide +kernel) | (refine Is.ofInt _ _)))); (try simp only [Rk.upd, List.set_cons_succ, List.set_cons_zero])) | ((with_reducible refine Rk.wpR_fsub Rk.good_bel (k := ?_) (X := ?_) (Y := ?_) (S := ?_) (T := ?_) ?_ ?_ ?_ ?_ ?_ ?_); rotate_left 5; (first | exact Rk.yes_none | exact Rk.yes_some rfl rfl); (simp only [Rk.slotS, List.getD_cons_succ, List.getD_cons_zero]; rfl); (simp only [Rk.slotS, List.getD_cons_succ, List.getD_cons_zero]; rfl); (first | exact Rk.subF_is _ _ | (refine Rk.subF_eq ?_; (first | assumption | ((refine Is.lit ?_); decide +kernel) | (refine Is.ofInt _ _)))); (first | exact Rk.subF_is _ _ | (refine Rk.subF_eq ?_; (first | assumption | ((refine Is.lit ?_); decide +kernel) | (refine Is.ofInt _ _)))); (try simp only [Rk.upd, List.set_cons_succ, List.set_cons_zero])) | ((with_reducible refine Rk.wpR_fmul Rk.good_bel (k := ?_) (X := ?_) (Y := ?_) (S := ?_) (T := ?_) ?_ ?_ ?_ ?_ ?_ ?_); rotate_left 5; (first | exact Rk.yes_none | exact Rk.yes_some rfl rfl); (simp only [Rk.slotS, List.getD_cons_succ, List.getD_cons_zero]; rfl); (simp only [Rk.slotS, List.getD_cons_succ, List.getD_cons_zero]; rfl); (first | exact Rk.subF_is _ _ | (refine Rk.subF_eq ?_; (first | assumption | ((refine Is.lit ?_); decide +kernel) | (refine Is.ofInt _ _)))); (first | exact Rk.subF_is _ _ | (refine Rk.subF_eq ?_; (first | assumption | ((refine Is.lit ?_); decide +kernel) | (refine Is.ofInt _ _)))); (try simp only [Rk.upd, List.set_cons_succ, List.set_cons_zero])) | ((with_reducible refine Rk.wpR_fquo Rk.good_bel (k := ?_) (X := ?_) (Y := ?_) (S := ?_) (T := ?_) ?_ ?_ ?_ ?_ ?_ ?_); rotate_left 5; (first | exact Rk.yes_none | exact Rk.yes_some rfl rfl); (simp only [Rk.slotS, List.getD_cons_succ, List.getD_cons_zero]; rfl); (simp only [Rk.slotS, List.getD_cons_succ, List.getD_cons_zero]; rfl); (first | exact Rk.subF_is _ _ | (refine Rk.subF_eq ?_; (first | assumption | ((refine Is.lit ?_); decide +kernel) | (refine Is.ofInt _ _)))); (first | exact Rk.subF_is _ _ | (refine Rk.subF_eq ?_; (first | assumption | ((refine Is.lit ?_); decide +kernel) | (refine Is.ofInt _ _)))); (try simp only [Rk.upd, List.set_cons_succ, List.set_cons_zero])) | ((with_reducible refine Rk.wpR_feq Rk.good_bel (k := ?_) (X := ?_) (Y := ?_) (S := ?_) (T := ?_) ?_ ?_ ?_ ?_ ?_ ?_); rotate_left 5; (first | exact Rk.yes_none | exact Rk.yes_some rfl rfl); (simp only [Rk.slotS, List.getD_cons_succ, List.getD_cons_zero]; rfl); (simp only [Rk.slotS, List.getD_cons_succ, List.getD_cons_zero]; rfl); (first | exact Rk.subF_is _ _ | (refine Rk.subF_eq ?_; (first | assumption | ((refine Is.lit ?_); decide +kernel) | (refine Is.ofInt _ _)))); (first | exact Rk.subF_is _ _ | (refine Rk.subF_eq ?_; (first | assumption | ((refine Is.lit ?_); decide +kernel) | (refine Is.ofInt _ _)))); (try simp only [Rk.upd, List.set_cons_succ, List.set_cons_zero])) | ((with_reducible refine Rk.wpR_fne Rk.good_bel (k := ?_) (X := ?_) (Y := ?_) (S := ?_) (T := ?_) ?_ ?_ ?_ ?_ ?_ ?_); rotate_left 5; (first | exact Rk.yes_none | exact Rk.yes_some rfl rfl); (simp only [Rk.slotS, List.getD_cons_succ, List.getD_cons_zero]; rfl); (simp only [Rk.slotS, List.getD_cons_succ, List.getD_cons_zero]; rfl); (first | exact Rk.subF_is _ _ | (refine Rk.subF_eq ?_; (first | assumption | ((refine Is.lit ?_); decide +kernel) | (refine Is.ofInt _ _)))); (first | exact Rk.subF_is _ _ | (refine Rk.subF_eq ?_; (first | assumption | ((refine Is.lit ?_); decide +kernel) | (refine Is.ofInt _ _)))); (try simp only [Rk.upd, List.set_cons_succ, List.set_cons_zero])) | ((with_reducible refine Rk.wpR_flt Rk.good_bel (k := ?_) (X := ?_) (Y := ?_) (S := ?_) (T := ?_) ?_ ?_ ?_ ?_ ?_ ?_); rotate_left 5; (first | exact Rk.yes_none | exact Rk.yes_some rfl rfl); (simp only [Rk.slotS, List.getD_cons_succ, List.getD_cons_zero]; rfl); (simp only [Rk.slotS, List.getD_cons_succ, List.getD_cons_zero]; rfl); (first | exact Rk.subF_is _ _ | (refine Rk.subF_eq ?_; (first | assumption | ((refine Is.lit ?_); decide +kernel) | (refine Is.ofInt _ _)))); (first | exact Rk.subF_is _ _ | (refine Rk.subF_eq ?_; (first | assumption | ((refine Is.lit ?_); decide +kernel) | (refine Is.ofInt _ _)))); (try simp only [Rk.upd, List.set_cons_succ, List.set_cons_zero])) | ((with_reducible refine Rk.wpR_fgt Rk.good_bel (k := ?_) (X := ?_) (Y := ?_) (S := ?_) (T := ?_) ?_ ?_ ?_ ?_ ?_ ?_); rotate_left 5; (first | exact Rk.yes_none | exact Rk.yes_some rfl rfl); (simp only [Rk.slotS, List.getD_cons_succ, List.getD_cons_zero]; rfl); (simp only [Rk.slotS, List.getD_cons_succ, List.getD_cons_zero]; rfl); (first | exact Rk.subF_is _ _ | (refine Rk.subF_eq ?_; (first | assumption | ((refine Is.lit ?_); decide +kernel) | (refine Is.ofInt _ _)))); (first | exact Rk.subF_is _ _ | (refine Rk.subF_eq ?_; (first | assumption | ((refine Is.lit ?_); decide +kernel) | (refine Is.ofInt _ _)))); (try simp only [Rk.upd, List.set_cons_succ, List.set_cons_zero])) | ((with_reducible refine Rk.wpR_fge Rk.good_bel (k := ?_) (X := ?_) (Y := ?_) (S := ?_) (T := ?_) ?_ ?_ ?_ ?_ ?_ ?_); rotate_left 5; (first | exact Rk.yes_none | exact Rk.yes_some rfl rfl); (simp only [Rk.slotS, List.getD_cons_succ, List.getD_cons_zero]; rfl); (simp only [Rk.slotS, List.getD_cons_succ, List.getD_cons_zero]; rfl); (first | exact Rk.subF_is _ _ | (refine Rk.subF_eq ?_; (first | assumption | ((refine Is.lit ?_); decide +kernel) | (refine Is.ofInt _ _)))); (first | exact Rk.subF_is _ _ | (refine Rk.subF_eq ?_; (first | assumption | ((refine Is.lit ?_); decide +kernel) | (refine Is.ofInt _ _)))); (try simp only [Rk.upd, List.set_cons_succ, List.set_cons_zero])) | ((with_reducible refine Rk.wpR_fle Rk.good_bel (k := ?_) (X := ?_) (Y := ?_) (S := ?_) (T := ?_) ?_ ?_ ?_ ?_ ?_ ?_); rotate_left 5; (first | exact Rk.yes_none | exact Rk.yes_some rfl rfl); (simp only [Rk.slotS, List.getD_cons_succ, List.getD_cons_zero]; rfl); (simp only [Rk.slotS, List.getD_cons_succ, List.getD_cons_zero]; rfl); (first | exact Rk.subF_is _ _ | (refine Rk.subF_eq ?_; (first | assumption | ((refine Is.lit ?_); decide +kernel) | (refine Is.ofInt _ _)))); (first | exact Rk.subF_is _ _ | (refine Rk.subF_eq ?_; (first | assumption | ((refine Is.lit ?_); decide +kernel) | (refine Is.ofInt _ _)))); (try simp only [Rk.upd, List.set_cons_succ, List.set_cons_zero])) | ((with_reducible refine Rk.wpR_indexAddr Rk.good_bel (v := ?_) (v' := ?_) (u := ?_) ?_ ?_ ?_ ?_ ?_); rotate_left 3; (first | exact Rk.yes_none | exact Rk.yes_some rfl rfl); (simp only [Rk.slotS, List.getD_cons_succ, List.getD_cons_zero]; rfl); (simp only [Rk.slotS, List.getD_cons_succ, List.getD_cons_zero]; rfl); (intro ρ w' hw hK1 hK2; go_simp; rfl); (try simp only [Rk.upd, List.set_cons_succ, List.set_cons_zero])) | ((with_reducible refine Rk.wpR_binOp Rk.good_bel (v := ?_) (v' := ?_) (u := ?_) ?_ ?_ ?_ ?_ ?_); rotate_left 3; (first | exact Rk.yes_none | exact Rk.yes_some rfl rfl); (simp only [Rk.slotS, List.getD_cons_succ, List.getD_cons_zero]; rfl); (simp only [Rk.slotS, List.getD_cons_succ, List.getD_cons_zero]; rfl); (intro ρ w' hw hK1 hK2; go_simp; rfl); (try simp only [Rk.upd, List.set_cons_succ, List.set_cons_zero])) | ((with_reducible refine Rk.wpR_load Rk.good_bel (v := ?_) (u := ?_) ?_ ?_ ?_ ?_); rotate_left 2; (first | exact Rk.yes_none | exact Rk.yes_some rfl rfl); (simp only [Rk.slotS, List.getD_cons_succ, List.getD_cons_zero]; rfl); (intro ρ w' hw hK1; obtain ⟨_, k0, k1, k2⟩ := HBox.bel hX1.out hw; have kk := frow_cell hS'.out.row.row hw hlt; rw [← hXd'.out, Nat.zero_add] at kk; obtain ⟨_, l0, l1, l2⟩ := HBox.bel hZ1.out hw; have ll := frow_cell hC1.out hw hlt; rw [← hZd'.out] at ll; go_simp; rfl); (try simp only [Rk.upd, List.set_cons_succ, List.set_cons_zero])) | ((with_reducible refine Rk.wpR_unOp Rk.good_bel (v := ?_) (u := ?_) ?_ ?_ ?_ ?_); rotate_left 2; (first | exact Rk.yes_none | exact Rk.yes_some rfl rfl); (simp only [Rk.slotS, List.getD_cons_succ, List.getD_cons_zero]; rfl); (intro ρ w' hw hK1; go_simp; rfl); (try simp only [Rk.upd, List.set_cons_succ, List.set_cons_zero])) | ((with_reducible refine Rk.wpR_convert Rk.good_bel (v := ?_) (u := ?_) ?_ ?_ ?_ ?_); rotate_left 2; (first | exact Rk.yes_none | exact Rk.yes_some rfl rfl); (simp only [Rk.slotS, List.getD_cons_succ, List.getD_cons_zero]; rfl); (intro ρ w' hw hK1; go_simp; rfl); (try simp only [Rk.upd, List.set_cons_succ, List.set_cons_zero])) | ((with_reducible refine Rk.wpR_field Rk.good_bel (v := ?_) (u := ?_) ?_ ?_ ?_ ?_); rotate_left 2; (first | exact Rk.yes_none | exact Rk.yes_some rfl rfl); (simp only [Rk.slotS, List.getD_cons_succ, List.getD_cons_zero]; rfl); (intro ρ w' hw hK1; go_simp; rfl); (try simp only [Rk.upd, List.set_cons_succ, List.set_cons_zero])) | ((with_reducible refine Rk.wpR_fieldAddr Rk.good_bel (v := ?_) (u := ?_) ?_ ?_ ?_ ?_); rotate_left 2; (first | exact Rk.yes_none | exact Rk.yes_some rfl rfl); (simp only [Rk.slotS, List.getD_cons_succ, List.getD_cons_zero]; rfl); (intro ρ w' hw hK1; go_simp; rfl); (try simp only [Rk.upd, List.set_cons_succ, List.set_cons_zero])) | ((with_reducible refine Rk.wpR_nilCheck Rk.good_bel (v := ?_) (u := ?_) ?_ ?_ ?_ ?_); rotate_left 2; (first | exact Rk.yes_none | exact Rk.yes_some rfl rfl); (simp only [Rk.slotS, List.getD_cons_succ, List.getD_cons_zero]; rfl); (intro ρ w' hw hK1; go_simp; rfl); (try simp only [Rk.upd, List.set_cons_succ, List.set_cons_zero])) | ((with_reducible refine Rk.wpR_builtin1 Rk.good_bel (v := ?_) (u := ?_) ?_ ?_ ?_ ?_); rotate_left 2; (first | exact Rk.yes_none | exact Rk.yes_some rfl rfl); (simp only [Rk.slotS, List.getD_cons_succ, List.getD_cons_zero]; rfl); (intro ρ w' hw hK1; go_simp; rfl); (try simp only [Rk.upd, List.set_cons_succ, List.set_cons_zero])) | ((with_reducible refine Rk.wpR_extract Rk.good_bel (v := ?_) (u := ?_) ?_ ?_ ?_ ?_); rotate_left 2; (first | exact Rk.yes_none | exact Rk.yes_some rfl rfl); (simp only [Rk.slotS, List.getD_cons_succ, List.getD_cons_zero]; rfl); (intro ρ w' hw hK1; go_simp; rfl); (try simp only [Rk.upd, List.set_cons_succ, List.set_cons_zero])))
            refine Rk.wpR_end ?_
            intro wK hwK
            repeat (first | refine Rk.all2_is1 ?_ | (refine Rk.all2_isF ?_; intro r0 hr0))
            refine Rk.all2_nil ?_
            have hrow := hS'.out.row.bel hwK
            have kc := frow_cell hrow.row (Bel.refl _) hlt
            have kf := (hrow.own _ rfl).2.2.2
            rw [Nat.zero_add] at kc
            have ks := run_store_float (P := Try.prog) kc (kf i)
            have hN := Lib.hid (hS'.out.next hlt hwK (by rw [← eg'.out]; exact hr0))
            clear hrow hwK kf kc
            go_wp2
            refine ⟨⟨i + 1, by omega, by simp, Lib.hid ⟨_, by have := hN.out; rw [Nat.zero_add] at this; exact this⟩⟩, ?_⟩
            show b * a - (((i : Nat) : Int) + 1).toNat < b * a - ((i : Nat) : Int).toNat
            omega
          · obtain rfl : i = b * a := by omega
            have hle : ¬ (((b * a : Nat) : Int) < (b : Int) * (a : Int)) := by rw [Int.natCast_mul]; omega
            have hds : ∀ j, j < b * a → cn .f32 (zs.getD j 0) = addF xs ys j := fun j hj => (hS.done j hj).2
            have hv1 := valid_made (F := addF xs ys) ha1 ha2 hb1 hb2 hds
            have hv1' := Lib.hid hv1
            have hY2 := Lib.hid (rbox_belx (hY.out.bel ((Bel.refl _).alloc _)) hS.bel (by have := hg1'.out; simp; omega))
            have hrow := Lib.hid hS.row
            have hBB := Lib.hid (belx_bel (hW.out.alloc _) hS.bel (by have := hg1'.out; omega))
            have hds' := Lib.hid hds
            have hszr := hS.bel.size
            simp at hszr
            clear hS hM hv1 hds
            go_wp2_with fail
            refine (give_any _ _ _ _ _ _ zs hrow.out.row hm).mono ?_
            rintro e w5 ⟨rfl, hB5⟩
            rw [hv1'.out]
            obtain ⟨y0, y1, y2, f0, f1, f2⟩ := rbox_facts (hY2.out.bel hB5)
            have hrow5 := Lib.hid (hrow.out.bel hB5)
            have hB5' := Lib.hid hB5
            have hsz5 := Lib.hid (show w3.heap.size ≤ w5.heap.size from by have := hB5.size; omega)
            clear hB5
            cases hal : allB (fun i => fin32B (addF xs ys i)) (b * a) with
            | true =>
              have hR2 := Lib.hid (madeR_t hal)
              clear hal
              go_wp2_with fail
              refine bodyPost_ret (v := .tuple #[hillV a b (some ⟨g, 0, none⟩) (b * a) cap, .bool true]) (by simp [results, Try.results28, go_sem, y0, y1, y2]) rfl ?_
              refine hret_set3 (by rw [hR.out, hR2.out]) (by rw [hR.out, hR2.out]) (by rw [hR.out, hR2.out]) (by rw [hR.out, hR2.out]) (hrow5.out.mono (by omega) hsz5.out) (fun q hq => by cases hq; have := hg1'.out; simp at this ⊢; omega) (fun j hj => by rw [hR.out, hR2.out]; exact hds'.out j hj) (hBB.out.trans hB5'.out) (by omega)
            | false =>
              have hR2 := Lib.hid (madeR_f hal)
              clear hal
              go_wp2_with fail
              refine bodyPost_ret (v := .tuple #[hillV 0 0 none 0 0, .bool false]) (by simp [results, Try.results28, go_sem, y0, y1, y2]) rfl (hret_no' (hR.out.trans hR2.out) ?_)
              exact (((hBB.out.trans hB5'.out).setCell (by simp; omega) _).setCell (by simp; omega) _).setCell (by simp; omega) _
      · have hR := Lib.hid (show addR a b (b * a) xs a2 b2 (b2 * a2) ys = noR by
          unfold addR; rw [hv, hv2]
          have : (decide ((a : Int) = a2) && decide ((b : Int) = b2)) = false := by
            rcases Decidable.em (a = a2) with e | e
            · rw [decide_eq_false (fun h => hab ⟨e, by omega⟩ : ¬ ((b : Int) = b2))]; simp
            · rw [decide_eq_false (by omega : ¬ ((a : Int) = a2))]; simp
          rw [this]; rfl)
        replace hv := Lib.hid hv
        replace hv2 := Lib.hid hv2
        by_cases e1 : a = a2
        · subst e1
          have e2 : ((b : Int) == b2) = false := by simp; omega
          have e2' : ¬ b = b2 := by omega
          clear hab
          go_enter Try.func28, Try.ntmps28
          go_wp2_with fail
          refine (l02Is_any _ _ a b _ _ _ xs hX.out hA'.out (by omega)).mono ?_
          rintro e w1 ⟨rfl, hB⟩
          rw [hv.out]
          replace hA' := Lib.hid (hA'.out.bel hB)
          replace hC' := Lib.hid (hC'.out.bel hB)
          replace hX := Lib.hid (hX.out.bel hB)
          replace hZ := Lib.hid (hZ.out.bel hB)
          replace hY := Lib.hid (hY.out.bel hB)
          replace hW := Lib.hid (hW.out.trans hB)
          clear hB
          obtain ⟨_, x0, x1, x2⟩ := hX.out
          obtain ⟨_, z0, z1, z2⟩ := hZ.out
          go_wp2_with fail
          refine (l02Is_any _ _ a b2 _ _ _ ys hZ.out hC'.out (by omega)).mono ?_
          rintro e w2 ⟨rfl, hB⟩
          rw [hv2.out]
          clear x0 x1 x2 z0 z1 z2
          replace hA' := Lib.hid (hA'.out.bel hB)
          replace hC' := Lib.hid (hC'.out.bel hB)
          replace hX := Lib.hid (hX.out.bel hB)
          replace hZ := Lib.hid (hZ.out.bel hB)
          replace hY := Lib.hid (hY.out.bel hB)
          replace hW := Lib.hid (hW.out.trans hB)
          clear hB
          obtain ⟨_, x0, x1, x2⟩ := hX.out
          obtain ⟨_, z0, z1, z2⟩ := hZ.out
          obtain ⟨y0, y1, y2, f0, f1, f2⟩ := rbox_facts hY.out
          go_wp2_with fail
          refine bodyPost_ret (v := .tuple #[hillV 0 0 none 0 0, .bool false]) (by simp [results, Try.results28, go_sem, y0, y1, y2]) rfl (hret_no hR.out ?_)
          exact ((hW.out.setCell (by simp; omega) _).setCell (by simp; omega) _).setCell (by simp; omega) _
        · have e2 : ((a : Int) == a2) = false := by simp; omega
          clear hab
          go_enter Try.func28, Try.ntmps28
          go_wp2_with fail
          refine (l02Is_any _ _ a b _ _ _ xs hX.out hA'.out (by omega)).mono ?_
          rintro e w1 ⟨rfl, hB⟩
          rw [hv.out]
          replace hA' := Lib.hid (hA'.out.bel hB)
          replace hC' := Lib.hid (hC'.out.bel hB)
          replace hX := Lib.hid (hX.out.bel hB)
          replace hZ := Lib.hid (hZ.out.bel hB)
          replace hY := Lib.hid (hY.out.bel hB)
          replace hW := Lib.hid (hW.out.trans hB)
          clear hB
          obtain ⟨_, x0, x1, x2⟩ := hX.out
          obtain ⟨_, z0, z1, z2⟩ := hZ.out
          go_wp2_with fail
          refine (l02Is_any _ _ a2 b2 _ _ _ ys hZ.out hC'.out (by omega)).mono ?_
          rintro e w2 ⟨rfl, hB⟩
          rw [hv2.out]
          clear x0 x1 x2 z0 z1 z2
          replace hA' := Lib.hid (hA'.out.bel hB)
          replace hC' := Lib.hid (hC'.out.bel hB)
          replace hX := Lib.hid (hX.out.bel hB)
          replace hZ := Lib.hid (hZ.out.bel hB)
          replace hY := Lib.hid (hY.out.bel hB)
          replace hW := Lib.hid (hW.out.trans hB)
          clear hB
          obtain ⟨_, x0, x1, x2⟩ := hX.out
          obtain ⟨_, z0, z1, z2⟩ := hZ.out
          obtain ⟨y0, y1, y2, f0, f1, f2⟩ := rbox_facts hY.out
          go_wp2_with fail
          refine bodyPost_ret (v := .tuple #[hillV 0 0 none 0 0, .bool false]) (by simp [results, Try.results28, go_sem, y0, y1, y2]) rfl (hret_no hR.out ?_)
          exact ((hW.out.setCell (by simp; omega) _).setCell (by simp; omega) _).setCell (by simp; omega) _
end Go.Proofs.Ytobghfjkkkfecaa
