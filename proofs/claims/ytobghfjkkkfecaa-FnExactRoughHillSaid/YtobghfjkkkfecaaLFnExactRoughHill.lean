/-
  THE LAW 'FnExactRoughHill': its walk, over the contracts of the two functions. (Printed by a program of mine.)
-/
import Derived.Test.YtobghfjkkkfecaaH4
import Derived.Test.YtobghfjkkkfecaaH34
set_option linter.unusedSimpArgs false
set_option linter.unusedVariables false
namespace Go.Proofs.Ytobghfjkkkfecaa
open Go.RowKit Go.Fl

set_option maxRecDepth 100000 in
set_option maxHeartbeats 8000000 in
theorem lawFnExactRoughHill (w : World) (Wa Ha : Int) (aoa : Option Addr) (na ca : Nat) (xsa : List Nat) (by' : Nat) (sd : Int) (R : HillR) (z : Int) (hRn : R.n ≤ 1048576)
    (hS : (∀ (w : World) (aa : Option Addr) (ka : Nat), FRow w aa na xsa → Calls Try.prog 37 #[hillV Wa Ha aa na ka, .float .f32 by', .int .i64 sd] w (RoRet R z w)))
    (hI : (∀ (w : World) (aa : Option Addr) (ka : Nat), FRow w aa na xsa → Calls Try.prog 38 #[hillV Wa Ha aa na ka, .float .f32 by', .int .i64 sd] w (RoRet R z w)))
    (hR_a : FRow w aoa na xsa) (hn : na ≤ 1048576) :
    Calls Try.prog 11 #[hillV Wa Ha aoa na ca, .float .f32 by', .int .i64 sd] w (fun e w' => e = .returned (.bool true) ∧ Bel w w') := by
  have hL_a := Lib.hid (frow_lt hR_a)
  replace hR_a := Lib.hid hR_a
  have hS' := Lib.hid hS
  have hI' := Lib.hid hI
  clear hS hI
  go_enter Try.func11, Try.ntmps11
  go_wp2_with fail
  refine (szHill_any _ Wa Ha aoa na ca 1048576 (by omega) (by omega)).mono ?_
  rintro e w1 ⟨rfl, hB⟩
  have hX_a := Lib.hid ((hbox_at w (w.heap.size) (by simp) Wa Ha (.slice aoa na ca) 24).bel hB)
  replace hR_a := Lib.hid (((hR_a.out.alloc _)).bel hB)
  have hW := Lib.hid ((((Bel.refl w).alloc _)).trans hB)
  have hsw1 := Lib.hid (show w.heap.size + 1 ≤ w1.heap.size from by have := Below.size hB; (try simp at this); omega)
  clear hB
  obtain ⟨_, ca0, ca1, ca2⟩ := hX_a.out
  go_wp2_with fail
  clear ca0 ca1 ca2
  refine (toHill_any _ Wa Ha aoa na ca xsa (by exact hR_a.out) (by omega)).mono ?_
  rintro e w2 ⟨ao_r, rfl, hR_r, hB⟩
  replace hR_r := Lib.hid hR_r
  replace hX_a := Lib.hid ((hX_a.out).bel hB)
  replace hR_a := Lib.hid ((hR_a.out).bel hB)
  replace hW := Lib.hid ((hW.out).trans hB)
  have hsw2 := Lib.hid (show w1.heap.size + 0 ≤ w2.heap.size from by have := Below.size hB; (try simp at this); omega)
  clear hB
  obtain ⟨_, ca0, ca1, ca2⟩ := hX_a.out
  go_wp2_with fail
  clear ca0 ca1 ca2
  refine (hS'.out _ _ _ (by exact hR_r.out.row)).mono ?_
  rintro e w3 ⟨ao_w0, c_w0, xs_w0, rfl, hR_w0, hF_w0, hB⟩
  replace hR_w0 := Lib.hid hR_w0
  replace hF_w0 := Lib.hid hF_w0
  replace hX_a := Lib.hid ((hX_a.out).bel hB)
  replace hR_a := Lib.hid ((hR_a.out).bel hB)
  replace hR_r := Lib.hid ((hR_r.out).bel hB)
  replace hW := Lib.hid ((hW.out).trans hB)
  have hsw3 := Lib.hid (show w2.heap.size + 0 ≤ w3.heap.size from by have := Below.size hB; (try simp at this); omega)
  clear hB
  obtain ⟨_, ca0, ca1, ca2⟩ := hX_a.out
  go_wp2_with fail
  clear ca0 ca1 ca2
  refine (toHill_any _ Wa Ha aoa na ca xsa (by exact (hR_a.out.alloc _)) (by omega)).mono ?_
  rintro e w4 ⟨ao_xa, rfl, hR_xa, hB⟩
  replace hR_xa := Lib.hid (hR_xa.mono (show w3.heap.size + 1 ≤ _ from by simp) (Nat.le_refl _))
  replace hX_a := Lib.hid (((hX_a.out.alloc _)).bel hB)
  replace hR_a := Lib.hid (((hR_a.out.alloc _)).bel hB)
  replace hR_r := Lib.hid (((hR_r.out.alloc _)).bel hB)
  replace hR_w0 := Lib.hid (((hR_w0.out.alloc _)).bel hB)
  replace hW := Lib.hid (((hW.out.alloc _)).trans hB)
  have hX_w0 := Lib.hid ((hbox_new w3 R.W R.H (.slice ao_w0 R.n c_w0) 27).bel hB)
  have hsw4 := Lib.hid (show w3.heap.size + 1 ≤ w4.heap.size from by have := Below.size hB; (try simp at this); omega)
  clear hB
  obtain ⟨_, ca0, ca1, ca2⟩ := hX_a.out
  obtain ⟨_, cw00, cw01, cw02⟩ := hX_w0.out
  go_wp2_with fail
  clear ca0 ca1 ca2
  clear cw00 cw01 cw02
  refine (hI'.out _ _ _ (by exact (hR_xa.out.alloc _).row)).mono ?_
  rintro e w5 ⟨ao_g, c_g, xs_g, rfl, hR_g, hF_g, hB⟩
  replace hR_g := Lib.hid (hR_g.mono (show w4.heap.size + 1 ≤ _ from by simp) (Nat.le_refl _))
  replace hF_g := Lib.hid hF_g
  replace hX_a := Lib.hid (((hX_a.out.alloc _)).bel hB)
  replace hX_w0 := Lib.hid (((hX_w0.out.alloc _)).bel hB)
  replace hR_a := Lib.hid (((hR_a.out.alloc _)).bel hB)
  replace hR_r := Lib.hid (((hR_r.out.alloc _)).bel hB)
  replace hR_w0 := Lib.hid (((hR_w0.out.alloc _)).bel hB)
  replace hR_xa := Lib.hid (((hR_xa.out.alloc _)).bel hB)
  replace hW := Lib.hid (((hW.out.alloc _)).trans hB)
  have hX_xa := Lib.hid ((hbox_new w4 Wa Ha (.slice ao_xa na na) 27).bel hB)
  have hsw5 := Lib.hid (show w4.heap.size + 1 ≤ w5.heap.size from by have := Below.size hB; (try simp at this); omega)
  clear hB
  obtain ⟨_, ca0, ca1, ca2⟩ := hX_a.out
  obtain ⟨_, cw00, cw01, cw02⟩ := hX_w0.out
  obtain ⟨_, cxa0, cxa1, cxa2⟩ := hX_xa.out
  go_wp2_with fail
  clear ca0 ca1 ca2
  clear cw00 cw01 cw02
  clear cxa0 cxa1 cxa2
  refine (eqHill_any _ R.W R.H _ _ _ _ _ xs_g xs_w0 (by exact (hR_g.out.alloc _).row) (by exact (hR_w0.out.alloc _).row) (by omega) (eqAll_of hR_g.out.row hR_w0.out.row (fun i hi => by rw [hF_g.out i hi, hF_w0.out i hi]))).mono ?_
  rintro e w6 ⟨rfl, hB⟩
  replace hX_a := Lib.hid (((hX_a.out.alloc _)).bel hB)
  replace hX_w0 := Lib.hid (((hX_w0.out.alloc _)).bel hB)
  replace hX_xa := Lib.hid (((hX_xa.out.alloc _)).bel hB)
  replace hR_a := Lib.hid (((hR_a.out.alloc _)).bel hB)
  replace hR_r := Lib.hid (((hR_r.out.alloc _)).bel hB)
  replace hR_w0 := Lib.hid (((hR_w0.out.alloc _)).bel hB)
  replace hR_xa := Lib.hid (((hR_xa.out.alloc _)).bel hB)
  replace hR_g := Lib.hid (((hR_g.out.alloc _)).bel hB)
  replace hW := Lib.hid (((hW.out.alloc _)).trans hB)
  have hX_g := Lib.hid ((hbox_new w5 R.W R.H (.slice ao_g R.n c_g) 27).bel hB)
  have hsw6 := Lib.hid (show w5.heap.size + 1 ≤ w6.heap.size from by have := Below.size hB; (try simp at this); omega)
  clear hB
  obtain ⟨_, ca0, ca1, ca2⟩ := hX_a.out
  obtain ⟨_, cw00, cw01, cw02⟩ := hX_w0.out
  obtain ⟨_, cxa0, cxa1, cxa2⟩ := hX_xa.out
  obtain ⟨_, cg0, cg1, cg2⟩ := hX_g.out
  go_wp2_with fail
  clear ca0 ca1 ca2
  clear cw00 cw01 cw02
  clear cxa0 cxa1 cxa2
  clear cg0 cg1 cg2
  (refine Rk.region_K (Le := Bel) [0, 1, 2, 3, 4] [] Rk.good_bel (by kernel_rfl) (by kernel_rfl) (by kernel_rfl) (by kernel_rfl) ?_; (try simp only [Rk.pick, List.getElem?_cons_succ, List.getElem?_cons_zero, Option.toList_some, List.cons_append, List.nil_append, List.map_cons, List.map_nil]))
  repeat (first | ((with_reducible refine Rk.wpR_move Rk.good_bel (S := ?_) ?_ ?_ ?_ ?_); (first | exact Rk.yes_none | exact Rk.yes_some rfl rfl); rotate_left 2; (simp only [Rk.slotS, List.getD_cons_succ, List.getD_cons_zero]; rfl); rotate_left 1; (first | exact Rk.mon_is1 _ | exact Rk.mon_isF _ _ | assumption); (try simp only [Rk.upd, List.set_cons_succ, List.set_cons_zero])) | ((with_reducible refine Rk.wpR_assign Rk.good_bel (S := ?_) ?_ ?_ ?_ ?_); (first | exact Rk.yes_none | exact Rk.yes_some rfl rfl); rotate_left 2; (simp only [Rk.slotS, List.getD_cons_succ, List.getD_cons_zero]; rfl); rotate_left 1; (first | exact Rk.mon_is1 _ | exact Rk.mon_isF _ _ | assumption); (try simp only [Rk.upd, List.set_cons_succ, List.set_cons_zero])) | ((with_reducible refine Rk.wpR_skip (d := ?_) (c := ?_) ?_ ?_ ?_ ?_); rotate_left 2; rfl; rfl; rfl; (try simp only [Rk.upd, List.set_cons_succ, List.set_cons_zero])) | ((with_reducible refine Rk.wpR_pickT Rk.good_bel (S := ?_) ?_ ?_ ?_ ?_ ?_); (first | exact Rk.yes_none | exact Rk.yes_some rfl rfl); rotate_left 2; rfl; (simp only [Rk.slotS, List.getD_cons_succ, List.getD_cons_zero]; rfl); rotate_left 1; (first | exact Rk.mon_is1 _ | exact Rk.mon_isF _ _ | assumption); (try simp only [Rk.upd, List.set_cons_succ, List.set_cons_zero])) | ((with_reducible refine Rk.wpR_pickF Rk.good_bel (S := ?_) ?_ ?_ ?_ ?_ ?_); (first | exact Rk.yes_none | exact Rk.yes_some rfl rfl); rotate_left 2; rfl; (simp only [Rk.slotS, List.getD_cons_succ, List.getD_cons_zero]; rfl); rotate_left 1; (first | exact Rk.mon_is1 _ | exact Rk.mon_isF _ _ | assumption); (try simp only [Rk.upd, List.set_cons_succ, List.set_cons_zero])) | ((with_reducible refine Rk.wpR_widen Rk.good_bel Try.underlying32 Try.underlying56 (X := ?_) (S := ?_) ?_ ?_ ?_ ?_); rotate_left 2; (first | exact Rk.yes_none | exact Rk.yes_some rfl rfl); (simp only [Rk.slotS, List.getD_cons_succ, List.getD_cons_zero]; rfl); (first | exact Rk.subF_is _ _ | (refine Rk.subF_eq ?_; (first | assumption | ((refine Is.lit ?_); decide +kernel) | (refine Is.ofInt _ _)))); (try simp only [Rk.upd, List.set_cons_succ, List.set_cons_zero])) | ((with_reducible refine Rk.wpR_fadd Rk.good_bel (k := ?_) (X := ?_) (Y := ?_) (S := ?_) (T := ?_) ?_ ?_ ?_ ?_ ?_ ?_); rotate_left 5; (first | exact Rk.yes_none | exact Rk.yes_some rfl rfl); (simp only [Rk.slotS, List.getD_cons_succ, List.getD_cons_zero]; rfl); (simp only [Rk.slotS, List.getD_cons_succ, List.getD_cons_zero]; rfl); (first | exact Rk.subF_is _ _ | (refine Rk.subF_eq ?_; (first | assumption | ((refine Is.lit ?_); decide +kernel) | (refine Is.ofInt _ _)))); (first | exact Rk.subF_is _ _ | (refine Rk.subF_eq ?_; (first | assumption | ((refine Is.lit ?_); decide +kernel) | (refine Is.ofInt _ _)))); (try simp only [Rk.upd, List.set_cons_succ, List.set_cons_zero])) | ((with_reducible refine Rk.wpR_fsub Rk.good_bel (k := ?_) (X := ?_) (Y := ?_) (S := ?_) (T := ?_) ?_ ?_ ?_ ?_ ?_ ?_); rotate_left 5; (first | exact Rk.yes_none | exact Rk.yes_some rfl rfl); (simp only [Rk.slotS, List.getD_cons_succ, List.getD_cons_zero]; rfl); (simp only [Rk.slotS, List.getD_cons_succ, List.getD_cons_zero]; rfl); (first | exact Rk.subF_is _ _ | (refine Rk.subF_eq ?_; (first | assumption | ((refine Is.lit ?_); decide +kernel) | (refine Is.ofInt _ _)))); (first | exact Rk.subF_is _ _ | (refine Rk.subF_eq ?_; (first | assumption | ((refine Is.lit ?_); decide +kernel) | (refine Is.ofInt _ _)))); (try simp only [Rk.upd, List.set_cons_succ, List.set_cons_zero])) | ((with_reducible refine Rk.wpR_fmul Rk.good_bel (k := ?_) (X := ?_) (Y := ?_) (S := ?_) (T := ?_) ?_ ?_ ?_ ?_ ?_ ?_); rotate_left 5; (first | exact Rk.yes_none | exact Rk.yes_some rfl rfl); (simp only [Rk.slotS, List.getD_cons_succ, List.getD_cons_zero]; rfl); (simp only [Rk.slotS, List.getD_cons_succ, List.getD_cons_zero]; rfl); (first | exact Rk.subF_is _ _ | (refine Rk.subF_eq ?_; (first | assumption | ((refine Is.lit ?_); decide +kernel) | (refine Is.ofInt _ _)))); (first | exact Rk.subF_is _ _ | (refine Rk.subF_eq ?_; (first | assumption | ((refine Is.lit ?_); decide +kernel) | (refine Is.ofInt _ _)))); (try simp only [Rk.upd, List.set_cons_succ, List.set_cons_zero])) | ((with_reducible refine Rk.wpR_fquo Rk.good_bel (k := ?_) (X := ?_) (Y := ?_) (S := ?_) (T := ?_) ?_ ?_ ?_ ?_ ?_ ?_); rotate_left 5; (first | exact Rk.yes_none | exact Rk.yes_some rfl rfl); (simp only [Rk.slotS, List.getD_cons_succ, List.getD_cons_zero]; rfl); (simp only [Rk.slotS, List.getD_cons_succ, List.getD_cons_zero]; rfl); (first | exact Rk.subF_is _ _ | (refine Rk.subF_eq ?_; (first | assumption | ((refine Is.lit ?_); decide +kernel) | (refine Is.ofInt _ _)))); (first | exact Rk.subF_is _ _ | (refine Rk.subF_eq ?_; (first | assumption | ((refine Is.lit ?_); decide +kernel) | (refine Is.ofInt _ _)))); (try simp only [Rk.upd, List.set_cons_succ, List.set_cons_zero])) | ((with_reducible refine Rk.wpR_feq Rk.good_bel (k := ?_) (X := ?_) (Y := ?_) (S := ?_) (T := ?_) ?_ ?_ ?_ ?_ ?_ ?_); rotate_left 5; (first | exact Rk.yes_none | exact Rk.yes_some rfl rfl); (simp only [Rk.slotS, List.getD_cons_succ, List.getD_cons_zero]; rfl); (simp only [Rk.slotS, List.getD_cons_succ, List.getD_cons_zero]; rfl); (first | exact Rk.subF_is _ _ | (refine Rk.subF_eq ?_; (first | assumption | ((refine Is.lit ?_); decide +kernel) | (refine Is.ofInt _ _)))); (first | exact Rk.subF_is _ _ | (refine Rk.subF_eq ?_; (first | assumption | ((refine Is.lit ?_); decide +kernel) | (refine Is.ofInt _ _)))); (try simp only [Rk.upd, List.set_cons_succ, List.set_cons_zero])) | ((with_reducible refine Rk.wpR_fne Rk.good_bel (k := ?_) (X := ?_) (Y := ?_) (S := ?_) (T := ?_) ?_ ?_ ?_ ?_ ?_ ?_); rotate_left 5; (first | exact Rk.yes_none | exact Rk.yes_some rfl rfl); (simp only [Rk.slotS, List.getD_cons_succ, List.getD_cons_zero]; rfl); (simp only [Rk.slotS, List.getD_cons_succ, List.getD_cons_zero]; rfl); (first | exact Rk.subF_is _ _ | (refine Rk.subF_eq ?_; (first | assumption | ((refine Is.lit ?_); decide +kernel) | (refine Is.ofInt _ _)))); (first | exact Rk.subF_is _ _ | (refine Rk.subF_eq ?_; (first | assumption | ((refine Is.lit ?_); decide +kernel) | (refine Is.ofInt _ _)))); (try simp only [Rk.upd, List.set_cons_succ, List.set_cons_zero])) | ((with_reducible refine Rk.wpR_flt Rk.good_bel (k := ?_) (X := ?_) (Y := ?_) (S := ?_) (T := ?_) ?_ ?_ ?_ ?_ ?_ ?_); rotate_left 5; (first | exact Rk.yes_none | exact Rk.yes_some rfl rfl); (simp only [Rk.slotS, List.getD_cons_succ, List.getD_cons_zero]; rfl); (simp only [Rk.slotS, List.getD_cons_succ, List.getD_cons_zero]; rfl); (first | exact Rk.subF_is _ _ | (refine Rk.subF_eq ?_; (first | assumption | ((refine Is.lit ?_); decide +kernel) | (refine Is.ofInt _ _)))); (first | exact Rk.subF_is _ _ | (refine Rk.subF_eq ?_; (first | assumption | ((refine Is.lit ?_); decide +kernel) | (refine Is.ofInt _ _)))); (try simp only [Rk.upd, List.set_cons_succ, List.set_cons_zero])) | ((with_reducible refine Rk.wpR_fgt Rk.good_bel (k := ?_) (X := ?_) (Y := ?_) (S := ?_) (T := ?_) ?_ ?_ ?_ ?_ ?_ ?_); rotate_left 5; (first | exact Rk.yes_none | exact Rk.yes_some rfl rfl); (simp only [Rk.slotS, List.getD_cons_succ, List.getD_cons_zero]; rfl); (simp only [Rk.slotS, List.getD_cons_succ, List.getD_cons_zero]; rfl); (first | exact Rk.subF_is _ _ | (refine Rk.subF_eq ?_; (first | assumption | ((refine Is.lit ?_); decide +kernel) | (refine Is.ofInt _ _)))); (first | exact Rk.subF_is _ _ | (refine Rk.subF_eq ?_; (first | assumption | ((refine Is.lit ?_); decide +kernel) | (refine Is.ofInt _ _)))); (try simp only [Rk.upd, List.set_cons_succ, List.set_cons_zero])) | ((with_reducible refine Rk.wpR_fge Rk.good_bel (k := ?_) (X := ?_) (Y := ?_) (S := ?_) (T := ?_) ?_ ?_ ?_ ?_ ?_ ?_); rotate_left 5; (first | exact Rk.yes_none | exact Rk.yes_some rfl rfl); (simp only [Rk.slotS, List.getD_cons_succ, List.getD_cons_zero]; rfl); (simp only [Rk.slotS, List.getD_cons_succ, List.getD_cons_zero]; rfl); (first | exact Rk.subF_is _ _ | (refine Rk.subF_eq ?_; (first | assumption | ((refine Is.lit ?_); decide +kernel) | (refine Is.ofInt _ _)))); (first | exact Rk.subF_is _ _ | (refine Rk.subF_eq ?_; (first | assumption | ((refine Is.lit ?_); decide +kernel) | (refine Is.ofInt _ _)))); (try simp only [Rk.upd, List.set_cons_succ, List.set_cons_zero])) | ((with_reducible refine Rk.wpR_fle Rk.good_bel (k := ?_) (X := ?_) (Y := ?_) (S := ?_) (T := ?_) ?_ ?_ ?_ ?_ ?_ ?_); rotate_left 5; (first | exact Rk.yes_none | exact Rk.yes_some rfl rfl); (simp only [Rk.slotS, List.getD_cons_succ, List.getD_cons_zero]; rfl); (simp only [Rk.slotS, List.getD_cons_succ, List.getD_cons_zero]; rfl); (first | exact Rk.subF_is _ _ | (refine Rk.subF_eq ?_; (first | assumption | ((refine Is.lit ?_); decide +kernel) | (refine Is.ofInt _ _)))); (first | exact Rk.subF_is _ _ | (refine Rk.subF_eq ?_; (first | assumption | ((refine Is.lit ?_); decide +kernel) | (refine Is.ofInt _ _)))); (try simp only [Rk.upd, List.set_cons_succ, List.set_cons_zero])) | ((with_reducible refine Rk.wpR_indexAddr Rk.good_bel (v := ?_) (v' := ?_) (u := ?_) ?_ ?_ ?_ ?_ ?_); rotate_left 3; (first | exact Rk.yes_none | exact Rk.yes_some rfl rfl); (simp only [Rk.slotS, List.getD_cons_succ, List.getD_cons_zero]; rfl); (simp only [Rk.slotS, List.getD_cons_succ, List.getD_cons_zero]; rfl); (intro ρ w' hw hK1 hK2; go_simp; rfl); (try simp only [Rk.upd, List.set_cons_succ, List.set_cons_zero])) | ((with_reducible refine Rk.wpR_binOp Rk.good_bel (v := ?_) (v' := ?_) (u := ?_) ?_ ?_ ?_ ?_ ?_); rotate_left 3; (first | exact Rk.yes_none | exact Rk.yes_some rfl rfl); (simp only [Rk.slotS, List.getD_cons_succ, List.getD_cons_zero]; rfl); (simp only [Rk.slotS, List.getD_cons_succ, List.getD_cons_zero]; rfl); (intro ρ w' hw hK1 hK2; go_simp; rfl); (try simp only [Rk.upd, List.set_cons_succ, List.set_cons_zero])) | ((with_reducible refine Rk.wpR_load Rk.good_bel (v := ?_) (u := ?_) ?_ ?_ ?_ ?_); rotate_left 2; (first | exact Rk.yes_none | exact Rk.yes_some rfl rfl); (simp only [Rk.slotS, List.getD_cons_succ, List.getD_cons_zero]; rfl); (intro ρ w' hw hK1; obtain ⟨_, ka0, ka1, ka2⟩ := HBox.bel hX_a.out hw; obtain ⟨_, kxa0, kxa1, kxa2⟩ := HBox.bel hX_xa.out hw; go_simp; rfl); (try simp only [Rk.upd, List.set_cons_succ, List.set_cons_zero])) | ((with_reducible refine Rk.wpR_unOp Rk.good_bel (v := ?_) (u := ?_) ?_ ?_ ?_ ?_); rotate_left 2; (first | exact Rk.yes_none | exact Rk.yes_some rfl rfl); (simp only [Rk.slotS, List.getD_cons_succ, List.getD_cons_zero]; rfl); (intro ρ w' hw hK1; go_simp; rfl); (try simp only [Rk.upd, List.set_cons_succ, List.set_cons_zero])) | ((with_reducible refine Rk.wpR_convert Rk.good_bel (v := ?_) (u := ?_) ?_ ?_ ?_ ?_); rotate_left 2; (first | exact Rk.yes_none | exact Rk.yes_some rfl rfl); (simp only [Rk.slotS, List.getD_cons_succ, List.getD_cons_zero]; rfl); (intro ρ w' hw hK1; go_simp; rfl); (try simp only [Rk.upd, List.set_cons_succ, List.set_cons_zero])) | ((with_reducible refine Rk.wpR_field Rk.good_bel (v := ?_) (u := ?_) ?_ ?_ ?_ ?_); rotate_left 2; (first | exact Rk.yes_none | exact Rk.yes_some rfl rfl); (simp only [Rk.slotS, List.getD_cons_succ, List.getD_cons_zero]; rfl); (intro ρ w' hw hK1; go_simp; rfl); (try simp only [Rk.upd, List.set_cons_succ, List.set_cons_zero])) | ((with_reducible refine Rk.wpR_fieldAddr Rk.good_bel (v := ?_) (u := ?_) ?_ ?_ ?_ ?_); rotate_left 2; (first | exact Rk.yes_none | exact Rk.yes_some rfl rfl); (simp only [Rk.slotS, List.getD_cons_succ, List.getD_cons_zero]; rfl); (intro ρ w' hw hK1; go_simp; rfl); (try simp only [Rk.upd, List.set_cons_succ, List.set_cons_zero])) | ((with_reducible refine Rk.wpR_nilCheck Rk.good_bel (v := ?_) (u := ?_) ?_ ?_ ?_ ?_); rotate_left 2; (first | exact Rk.yes_none | exact Rk.yes_some rfl rfl); (simp only [Rk.slotS, List.getD_cons_succ, List.getD_cons_zero]; rfl); (intro ρ w' hw hK1; go_simp; rfl); (try simp only [Rk.upd, List.set_cons_succ, List.set_cons_zero])) | ((with_reducible refine Rk.wpR_builtin1 Rk.good_bel (v := ?_) (u := ?_) ?_ ?_ ?_ ?_); rotate_left 2; (first | exact Rk.yes_none | exact Rk.yes_some rfl rfl); (simp only [Rk.slotS, List.getD_cons_succ, List.getD_cons_zero]; rfl); (intro ρ w' hw hK1; go_simp; rfl); (try simp only [Rk.upd, List.set_cons_succ, List.set_cons_zero])) | ((with_reducible refine Rk.wpR_extract Rk.good_bel (v := ?_) (u := ?_) ?_ ?_ ?_ ?_); rotate_left 2; (first | exact Rk.yes_none | exact Rk.yes_some rfl rfl); (simp only [Rk.slotS, List.getD_cons_succ, List.getD_cons_zero]; rfl); (intro ρ w' hw hK1; go_simp; rfl); (try simp only [Rk.upd, List.set_cons_succ, List.set_cons_zero])))
  (refine Rk.wpR_call1 Rk.good_bel (S := ?_) (V := TV Wa Ha na xsa) (Rg.enters Try.func17 (by kernel_rfl) (by kernel_rfl)) ?_ ?_ ?_ ?_ ?_; rotate_left 1; (first | exact Rk.yes_none | exact Rk.yes_some rfl rfl); (simp only [Rk.slotS, List.getD_cons_succ, List.getD_cons_zero]; rfl); rotate_left 2; (try simp only [Rk.upd, List.set_cons_succ, List.set_cons_zero]); rotate_right 2)
  · exact mon_TV _ _ _ _
  · rintro u w' hw rfl
    exact cg_TV (toHill_any w' _ _ _ _ _ xsa (hR_a.out.bel hw) (by omega))
  repeat (first | ((with_reducible refine Rk.wpR_move Rk.good_bel (S := ?_) ?_ ?_ ?_ ?_); (first | exact Rk.yes_none | exact Rk.yes_some rfl rfl); rotate_left 2; (simp only [Rk.slotS, List.getD_cons_succ, List.getD_cons_zero]; rfl); rotate_left 1; (first | exact Rk.mon_is1 _ | exact Rk.mon_isF _ _ | assumption); (try simp only [Rk.upd, List.set_cons_succ, List.set_cons_zero])) | ((with_reducible refine Rk.wpR_assign Rk.good_bel (S := ?_) ?_ ?_ ?_ ?_); (first | exact Rk.yes_none | exact Rk.yes_some rfl rfl); rotate_left 2; (simp only [Rk.slotS, List.getD_cons_succ, List.getD_cons_zero]; rfl); rotate_left 1; (first | exact Rk.mon_is1 _ | exact Rk.mon_isF _ _ | assumption); (try simp only [Rk.upd, List.set_cons_succ, List.set_cons_zero])) | ((with_reducible refine Rk.wpR_skip (d := ?_) (c := ?_) ?_ ?_ ?_ ?_); rotate_left 2; rfl; rfl; rfl; (try simp only [Rk.upd, List.set_cons_succ, List.set_cons_zero])) | ((with_reducible refine Rk.wpR_pickT Rk.good_bel (S := ?_) ?_ ?_ ?_ ?_ ?_); (first | exact Rk.yes_none | exact Rk.yes_some rfl rfl); rotate_left 2; rfl; (simp only [Rk.slotS, List.getD_cons_succ, List.getD_cons_zero]; rfl); rotate_left 1; (first | exact Rk.mon_is1 _ | exact Rk.mon_isF _ _ | assumption); (try simp only [Rk.upd, List.set_cons_succ, List.set_cons_zero])) | ((with_reducible refine Rk.wpR_pickF Rk.good_bel (S := ?_) ?_ ?_ ?_ ?_ ?_); (first | exact Rk.yes_none | exact Rk.yes_some rfl rfl); rotate_left 2; rfl; (simp only [Rk.slotS, List.getD_cons_succ, List.getD_cons_zero]; rfl); rotate_left 1; (first | exact Rk.mon_is1 _ | exact Rk.mon_isF _ _ | assumption); (try simp only [Rk.upd, List.set_cons_succ, List.set_cons_zero])) | ((with_reducible refine Rk.wpR_widen Rk.good_bel Try.underlying32 Try.underlying56 (X := ?_) (S := ?_) ?_ ?_ ?_ ?_); rotate_left 2; (first | exact Rk.yes_none | exact Rk.yes_some rfl rfl); (simp only [Rk.slotS, List.getD_cons_succ, List.getD_cons_zero]; rfl); (first | exact Rk.subF_is _ _ | (refine Rk.subF_eq ?_; (first | assumption | ((refine Is.lit ?_); decide +kernel) | (refine Is.ofInt _ _)))); (try simp only [Rk.upd, List.set_cons_succ, List.set_cons_zero])) | ((with_reducible refine Rk.wpR_fadd Rk.good_bel (k := ?_) (X := ?_) (Y := ?_) (S := ?_) (T := ?_) ?_ ?_ ?_ ?_ ?_ ?_); rotate_left 5; (first | exact Rk.yes_none | exact Rk.yes_some rfl rfl); (simp only [Rk.slotS, List.getD_cons_succ, List.getD_cons_zero]; rfl); (simp only [Rk.slotS, List.getD_cons_succ, List.getD_cons_zero]; rfl); (first | exact Rk.subF_is _ _ | (refine Rk.subF_eq ?_; (first | assumption | ((refine Is.lit ?_); decide +kernel) | (refine Is.ofInt _ _)))); (first | exact Rk.subF_is _ _ | (refine Rk.subF_eq ?_; (first | assumption | ((refine Is.lit ?_); decide +kernel) | (refine Is.ofInt _ _)))); (try simp only [Rk.upd, List.set_cons_succ, List.set_cons_zero])) | ((with_reducible refine Rk.wpR_fsub Rk.good_bel (k := ?_) (X := ?_) (Y := ?_) (S := ?_) (T := ?_) ?_ ?_ ?_ ?_ ?_ ?_); rotate_left 5; (first | exact Rk.yes_none | exact Rk.yes_some rfl rfl); (simp only [Rk.slotS, List.getD_cons_succ, List.getD_cons_zero]; rfl); (simp only [Rk.slotS, List.getD_cons_succ, List.getD_cons_zero]; rfl); (first | exact Rk.subF_is _ _ | (refine Rk.subF_eq ?_; (first | assumption | ((refine Is.lit ?_); decide +kernel) | (refine Is.ofInt _ _)))); (first | exact Rk.subF_is _ _ | (refine Rk.subF_eq ?_; (first | assumption | ((refine Is.lit ?_); decide +kernel) | (refine Is.ofInt _ _)))); (try simp only [Rk.upd, List.set_cons_succ, List.set_cons_zero])) | ((with_reducible refine Rk.wpR_fmul Rk.good_bel (k := ?_) (X := ?_) (Y := ?_) (S := ?_) (T := ?_) ?_ ?_ ?_ ?_ ?_ ?_); rotate_left 5; (first | exact Rk.yes_none | exact Rk.yes_some rfl rfl); (simp only [Rk.slotS, List.getD_cons_succ, List.getD_cons_zero]; rfl); (simp only [Rk.slotS, List.getD_cons_succ, List.getD_cons_zero]; rfl); (first | exact Rk.subF_is _ _ | (refine Rk.subF_eq ?_; (first | assumption | ((refine Is.lit ?_); decide +kernel) | (refine Is.ofInt _ _)))); (first | exact Rk.subF_is _ _ | (refine Rk.subF_eq ?_; (first | assumption | ((refine Is.lit ?_); decide +kernel) | (refine Is.ofInt _ _)))); (try simp only [Rk.upd, List.set_cons_succ, List.set_cons_zero])) | ((with_reducible refine Rk.wpR_fquo Rk.good_bel (k := ?_) (X := ?_) (Y := ?_) (S := ?_) (T := ?_) ?_ ?_ ?_ ?_ ?_ ?_); rotate_left 5; (first | exact Rk.yes_none | exact Rk.yes_some rfl rfl); (simp only [Rk.slotS, List.getD_cons_succ, List.getD_cons_zero]; rfl); (simp only [Rk.slotS, List.getD_cons_succ, List.getD_cons_zero]; rfl); (first | exact Rk.subF_is _ _ | (refine Rk.subF_eq ?_; (first | assumption | ((refine Is.lit ?_); decide +kernel) | (refine Is.ofInt _ _)))); (first | exact Rk.subF_is _ _ | (refine Rk.subF_eq ?_; (first | assumption | ((refine Is.lit ?_); decide +kernel) | (refine Is.ofInt _ _)))); (try simp only [Rk.upd, List.set_cons_succ, List.set_cons_zero])) | ((with_reducible refine Rk.wpR_feq Rk.good_bel (k := ?_) (X := ?_) (Y := ?_) (S := ?_) (T := ?_) ?_ ?_ ?_ ?_ ?_ ?_); rotate_left 5; (first | exact Rk.yes_none | exact Rk.yes_some rfl rfl); (simp only [Rk.slotS, List.getD_cons_succ, List.getD_cons_zero]; rfl); (simp only [Rk.slotS, List.getD_cons_succ, List.getD_cons_zero]; rfl); (first | exact Rk.subF_is _ _ | (refine Rk.subF_eq ?_; (first | assumption | ((refine Is.lit ?_); decide +kernel) | (refine Is.ofInt _ _)))); (first | exact Rk.subF_is _ _ | (refine Rk.subF_eq ?_; (first | assumption | ((refine Is.lit ?_); decide +kernel) | (refine Is.ofInt _ _)))); (try simp only [Rk.upd, List.set_cons_succ, List.set_cons_zero])) | ((with_reducible refine Rk.wpR_fne Rk.good_bel (k := ?_) (X := ?_) (Y := ?_) (S := ?_) (T := ?_) ?_ ?_ ?_ ?_ ?_ ?_); rotate_left 5; (first | exact Rk.yes_none | exact Rk.yes_some rfl rfl); (simp only [Rk.slotS, List.getD_cons_succ, List.getD_cons_zero]; rfl); (simp only [Rk.slotS, List.getD_cons_succ, List.getD_cons_zero]; rfl); (first | exact Rk.subF_is _ _ | (refine Rk.subF_eq ?_; (first | assumption | ((refine Is.lit ?_); decide +kernel) | (refine Is.ofInt _ _)))); (first | exact Rk.subF_is _ _ | (refine Rk.subF_eq ?_; (first | assumption | ((refine Is.lit ?_); decide +kernel) | (refine Is.ofInt _ _)))); (try simp only [Rk.upd, List.set_cons_succ, List.set_cons_zero])) | ((with_reducible refine Rk.wpR_flt Rk.good_bel (k := ?_) (X := ?_) (Y := ?_) (S := ?_) (T := ?_) ?_ ?_ ?_ ?_ ?_ ?_); rotate_left 5; (first | exact Rk.yes_none | exact Rk.yes_some rfl rfl); (simp only [Rk.slotS, List.getD_cons_succ, List.getD_cons_zero]; rfl); (simp only [Rk.slotS, List.getD_cons_succ, List.getD_cons_zero]; rfl); (first | exact Rk.subF_is _ _ | (refine Rk.subF_eq ?_; (first | assumption | ((refine Is.lit ?_); decide +kernel) | (refine Is.ofInt _ _)))); (first | exact Rk.subF_is _ _ | (refine Rk.subF_eq ?_; (first | assumption | ((refine Is.lit ?_); decide +kernel) | (refine Is.ofInt _ _)))); (try simp only [Rk.upd, List.set_cons_succ, List.set_cons_zero])) | ((with_reducible refine Rk.wpR_fgt Rk.good_bel (k := ?_) (X := ?_) (Y := ?_) (S := ?_) (T := ?_) ?_ ?_ ?_ ?_ ?_ ?_); rotate_left 5; (first | exact Rk.yes_none | exact Rk.yes_some rfl rfl); (simp only [Rk.slotS, List.getD_cons_succ, List.getD_cons_zero]; rfl); (simp only [Rk.slotS, List.getD_cons_succ, List.getD_cons_zero]; rfl); (first | exact Rk.subF_is _ _ | (refine Rk.subF_eq ?_; (first | assumption | ((refine Is.lit ?_); decide +kernel) | (refine Is.ofInt _ _)))); (first | exact Rk.subF_is _ _ | (refine Rk.subF_eq ?_; (first | assumption | ((refine Is.lit ?_); decide +kernel) | (refine Is.ofInt _ _)))); (try simp only [Rk.upd, List.set_cons_succ, List.set_cons_zero])) | ((with_reducible refine Rk.wpR_fge Rk.good_bel (k := ?_) (X := ?_) (Y := ?_) (S := ?_) (T := ?_) ?_ ?_ ?_ ?_ ?_ ?_); rotate_left 5; (first | exact Rk.yes_none | exact Rk.yes_some rfl rfl); (simp only [Rk.slotS, List.getD_cons_succ, List.getD_cons_zero]; rfl); (simp only [Rk.slotS, List.getD_cons_succ, List.getD_cons_zero]; rfl); (first | exact Rk.subF_is _ _ | (refine Rk.subF_eq ?_; (first | assumption | ((refine Is.lit ?_); decide +kernel) | (refine Is.ofInt _ _)))); (first | exact Rk.subF_is _ _ | (refine Rk.subF_eq ?_; (first | assumption | ((refine Is.lit ?_); decide +kernel) | (refine Is.ofInt _ _)))); (try simp only [Rk.upd, List.set_cons_succ, List.set_cons_zero])) | ((with_reducible refine Rk.wpR_fle Rk.good_bel (k := ?_) (X := ?_) (Y := ?_) (S := ?_) (T := ?_) ?_ ?_ ?_ ?_ ?_ ?_); rotate_left 5; (first | exact Rk.yes_none | exact Rk.yes_some rfl rfl); (simp only [Rk.slotS, List.getD_cons_succ, List.getD_cons_zero]; rfl); (simp only [Rk.slotS, List.getD_cons_succ, List.getD_cons_zero]; rfl); (first | exact Rk.subF_is _ _ | (refine Rk.subF_eq ?_; (first | assumption | ((refine Is.lit ?_); decide +kernel) | (refine Is.ofInt _ _)))); (first | exact Rk.subF_is _ _ | (refine Rk.subF_eq ?_; (first | assumption | ((refine Is.lit ?_); decide +kernel) | (refine Is.ofInt _ _)))); (try simp only [Rk.upd, List.set_cons_succ, List.set_cons_zero])) | ((with_reducible refine Rk.wpR_indexAddr Rk.good_bel (v := ?_) (v' := ?_) (u := ?_) ?_ ?_ ?_ ?_ ?_); rotate_left 3; (first | exact Rk.yes_none | exact Rk.yes_some rfl rfl); (simp only [Rk.slotS, List.getD_cons_succ, List.getD_cons_zero]; rfl); (simp only [Rk.slotS, List.getD_cons_succ, List.getD_cons_zero]; rfl); (intro ρ w' hw hK1 hK2; go_simp; rfl); (try simp only [Rk.upd, List.set_cons_succ, List.set_cons_zero])) | ((with_reducible refine Rk.wpR_binOp Rk.good_bel (v := ?_) (v' := ?_) (u := ?_) ?_ ?_ ?_ ?_ ?_); rotate_left 3; (first | exact Rk.yes_none | exact Rk.yes_some rfl rfl); (simp only [Rk.slotS, List.getD_cons_succ, List.getD_cons_zero]; rfl); (simp only [Rk.slotS, List.getD_cons_succ, List.getD_cons_zero]; rfl); (intro ρ w' hw hK1 hK2; go_simp; rfl); (try simp only [Rk.upd, List.set_cons_succ, List.set_cons_zero])) | ((with_reducible refine Rk.wpR_load Rk.good_bel (v := ?_) (u := ?_) ?_ ?_ ?_ ?_); rotate_left 2; (first | exact Rk.yes_none | exact Rk.yes_some rfl rfl); (simp only [Rk.slotS, List.getD_cons_succ, List.getD_cons_zero]; rfl); (intro ρ w' hw hK1; skip; go_simp; rfl); (try simp only [Rk.upd, List.set_cons_succ, List.set_cons_zero])) | ((with_reducible refine Rk.wpR_unOp Rk.good_bel (v := ?_) (u := ?_) ?_ ?_ ?_ ?_); rotate_left 2; (first | exact Rk.yes_none | exact Rk.yes_some rfl rfl); (simp only [Rk.slotS, List.getD_cons_succ, List.getD_cons_zero]; rfl); (intro ρ w' hw hK1; go_simp; rfl); (try simp only [Rk.upd, List.set_cons_succ, List.set_cons_zero])) | ((with_reducible refine Rk.wpR_convert Rk.good_bel (v := ?_) (u := ?_) ?_ ?_ ?_ ?_); rotate_left 2; (first | exact Rk.yes_none | exact Rk.yes_some rfl rfl); (simp only [Rk.slotS, List.getD_cons_succ, List.getD_cons_zero]; rfl); (intro ρ w' hw hK1; go_simp; rfl); (try simp only [Rk.upd, List.set_cons_succ, List.set_cons_zero])) | ((with_reducible refine Rk.wpR_field Rk.good_bel (v := ?_) (u := ?_) ?_ ?_ ?_ ?_); rotate_left 2; (first | exact Rk.yes_none | exact Rk.yes_some rfl rfl); (simp only [Rk.slotS, List.getD_cons_succ, List.getD_cons_zero]; rfl); (intro ρ w' hw hK1; go_simp; rfl); (try simp only [Rk.upd, List.set_cons_succ, List.set_cons_zero])) | ((with_reducible refine Rk.wpR_fieldAddr Rk.good_bel (v := ?_) (u := ?_) ?_ ?_ ?_ ?_); rotate_left 2; (first | exact Rk.yes_none | exact Rk.yes_some rfl rfl); (simp only [Rk.slotS, List.getD_cons_succ, List.getD_cons_zero]; rfl); (intro ρ w' hw hK1; go_simp; rfl); (try simp only [Rk.upd, List.set_cons_succ, List.set_cons_zero])) | ((with_reducible refine Rk.wpR_nilCheck Rk.good_bel (v := ?_) (u := ?_) ?_ ?_ ?_ ?_); rotate_left 2; (first | exact Rk.yes_none | exact Rk.yes_some rfl rfl); (simp only [Rk.slotS, List.getD_cons_succ, List.getD_cons_zero]; rfl); (intro ρ w' hw hK1; go_simp; rfl); (try simp only [Rk.upd, List.set_cons_succ, List.set_cons_zero])) | ((with_reducible refine Rk.wpR_builtin1 Rk.good_bel (v := ?_) (u := ?_) ?_ ?_ ?_ ?_); rotate_left 2; (first | exact Rk.yes_none | exact Rk.yes_some rfl rfl); (simp only [Rk.slotS, List.getD_cons_succ, List.getD_cons_zero]; rfl); (intro ρ w' hw hK1; go_simp; rfl); (try simp only [Rk.upd, List.set_cons_succ, List.set_cons_zero])) | ((with_reducible refine Rk.wpR_extract Rk.good_bel (v := ?_) (u := ?_) ?_ ?_ ?_ ?_); rotate_left 2; (first | exact Rk.yes_none | exact Rk.yes_some rfl rfl); (simp only [Rk.slotS, List.getD_cons_succ, List.getD_cons_zero]; rfl); (intro ρ w' hw hK1; go_simp; rfl); (try simp only [Rk.upd, List.set_cons_succ, List.set_cons_zero])))
  (refine Rk.wpR_call2 Rk.good_bel (S := ?_) (S2 := ?_) (V := Rk.Is1 (.bool true)) (Rg.enters Try.func19 (by kernel_rfl) (by kernel_rfl)) ?_ ?_ ?_ ?_ ?_ ?_; rotate_left 2; (first | exact Rk.yes_none | exact Rk.yes_some rfl rfl); (simp only [Rk.slotS, List.getD_cons_succ, List.getD_cons_zero]; rfl); (simp only [Rk.slotS, List.getD_cons_succ, List.getD_cons_zero]; rfl); rotate_left 2; (try simp only [Rk.upd, List.set_cons_succ, List.set_cons_zero]); rotate_right 2)
  · exact Rk.mon_is1 _
  · rintro u v w' hw rfl ⟨bo, rfl, hF⟩
    exact cg_bret (eqHill_any w' _ _ _ _ _ _ _ xsa xsa (hR_xa.out.row.bel hw) hF (by omega) (fun _ => rfl))
  repeat (first | ((with_reducible refine Rk.wpR_move Rk.good_bel (S := ?_) ?_ ?_ ?_ ?_); (first | exact Rk.yes_none | exact Rk.yes_some rfl rfl); rotate_left 2; (simp only [Rk.slotS, List.getD_cons_succ, List.getD_cons_zero]; rfl); rotate_left 1; (first | exact Rk.mon_is1 _ | exact Rk.mon_isF _ _ | assumption); (try simp only [Rk.upd, List.set_cons_succ, List.set_cons_zero])) | ((with_reducible refine Rk.wpR_assign Rk.good_bel (S := ?_) ?_ ?_ ?_ ?_); (first | exact Rk.yes_none | exact Rk.yes_some rfl rfl); rotate_left 2; (simp only [Rk.slotS, List.getD_cons_succ, List.getD_cons_zero]; rfl); rotate_left 1; (first | exact Rk.mon_is1 _ | exact Rk.mon_isF _ _ | assumption); (try simp only [Rk.upd, List.set_cons_succ, List.set_cons_zero])) | ((with_reducible refine Rk.wpR_skip (d := ?_) (c := ?_) ?_ ?_ ?_ ?_); rotate_left 2; rfl; rfl; rfl; (try simp only [Rk.upd, List.set_cons_succ, List.set_cons_zero])) | ((with_reducible refine Rk.wpR_pickT Rk.good_bel (S := ?_) ?_ ?_ ?_ ?_ ?_); (first | exact Rk.yes_none | exact Rk.yes_some rfl rfl); rotate_left 2; rfl; (simp only [Rk.slotS, List.getD_cons_succ, List.getD_cons_zero]; rfl); rotate_left 1; (first | exact Rk.mon_is1 _ | exact Rk.mon_isF _ _ | assumption); (try simp only [Rk.upd, List.set_cons_succ, List.set_cons_zero])) | ((with_reducible refine Rk.wpR_pickF Rk.good_bel (S := ?_) ?_ ?_ ?_ ?_ ?_); (first | exact Rk.yes_none | exact Rk.yes_some rfl rfl); rotate_left 2; rfl; (simp only [Rk.slotS, List.getD_cons_succ, List.getD_cons_zero]; rfl); rotate_left 1; (first | exact Rk.mon_is1 _ | exact Rk.mon_isF _ _ | assumption); (try simp only [Rk.upd, List.set_cons_succ, List.set_cons_zero])) | ((with_reducible refine Rk.wpR_widen Rk.good_bel Try.underlying32 Try.underlying56 (X := ?_) (S := ?_) ?_ ?_ ?_ ?_); rotate_left 2; (first | exact Rk.yes_none | exact Rk.yes_some rfl rfl); (simp only [Rk.slotS, List.getD_cons_succ, List.getD_cons_zero]; rfl); (first | exact Rk.subF_is _ _ | (refine Rk.subF_eq ?_; (first | assumption | ((refine Is.lit ?_); decide +kernel) | (refine Is.ofInt _ _)))); (try simp only [Rk.upd, List.set_cons_succ, List.set_cons_zero])) | ((with_reducible refine Rk.wpR_fadd Rk.good_bel (k := ?_) (X := ?_) (Y := ?_) (S := ?_) (T := ?_) ?_ ?_ ?_ ?_ ?_ ?_); rotate_left 5; (first | exact Rk.yes_none | exact Rk.yes_some rfl rfl); (simp only [Rk.slotS, List.getD_cons_succ, List.getD_cons_zero]; rfl); (simp only [Rk.slotS, List.getD_cons_succ, List.getD_cons_zero]; rfl); (first | exact Rk.subF_is _ _ | (refine Rk.subF_eq ?_; (first | assumption | ((refine Is.lit ?_); decide +kernel) | (refine Is.ofInt _ _)))); (first | exact Rk.subF_is _ _ | (refine Rk.subF_eq ?_; (first | assumption | ((refine Is.lit ?_); decide +kernel) | (refine Is.ofInt _ _)))); (try simp only [Rk.upd, List.set_cons_succ, List.set_cons_zero])) | ((with_reducible refine Rk.wpR_fsub Rk.good_bel (k := ?_) (X := ?_) (Y := ?_) (S := ?_) (T := ?_) ?_ ?_ ?_ ?_ ?_ ?_); rotate_left 5; (first | exact Rk.yes_none | exact Rk.yes_some rfl rfl); (simp only [Rk.slotS, List.getD_cons_succ, List.getD_cons_zero]; rfl); (simp only [Rk.slotS, List.getD_cons_succ, List.getD_cons_zero]; rfl); (first | exact Rk.subF_is _ _ | (refine Rk.subF_eq ?_; (first | assumption | ((refine Is.lit ?_); decide +kernel) | (refine Is.ofInt _ _)))); (first | exact Rk.subF_is _ _ | (refine Rk.subF_eq ?_; (first | assumption | ((refine Is.lit ?_); decide +kernel) | (refine Is.ofInt _ _)))); (try simp only [Rk.upd, List.set_cons_succ, List.set_cons_zero])) | ((with_reducible refine Rk.wpR_fmul Rk.good_bel (k := ?_) (X := ?_) (Y := ?_) (S := ?_) (T := ?_) ?_ ?_ ?_ ?_ ?_ ?_); rotate_left 5; (first | exact Rk.yes_none | exact Rk.yes_some rfl rfl); (simp only [Rk.slotS, List.getD_cons_succ, List.getD_cons_zero]; rfl); (simp only [Rk.slotS, List.getD_cons_succ, List.getD_cons_zero]; rfl); (first | exact Rk.subF_is _ _ | (refine Rk.subF_eq ?_; (first | assumption | ((refine Is.lit ?_); decide +kernel) | (refine Is.ofInt _ _)))); (first | exact Rk.subF_is _ _ | (refine Rk.subF_eq ?_; (first | assumption | ((refine Is.lit ?_); decide +kernel) | (refine Is.ofInt _ _)))); (try simp only [Rk.upd, List.set_cons_succ, List.set_cons_zero])) | ((with_reducible refine Rk.wpR_fquo Rk.good_bel (k := ?_) (X := ?_) (Y := ?_) (S := ?_) (T := ?_) ?_ ?_ ?_ ?_ ?_ ?_); rotate_left 5; (first | exact Rk.yes_none | exact Rk.yes_some rfl rfl); (simp only [Rk.slotS, List.getD_cons_succ, List.getD_cons_zero]; rfl); (simp only [Rk.slotS, List.getD_cons_succ, List.getD_cons_zero]; rfl); (first | exact Rk.subF_is _ _ | (refine Rk.subF_eq ?_; (first | assumption | ((refine Is.lit ?_); decide +kernel) | (refine Is.ofInt _ _)))); (first | exact Rk.subF_is _ _ | (refine Rk.subF_eq ?_; (first | assumption | ((refine Is.lit ?_); decide +kernel) | (refine Is.ofInt _ _)))); (try simp only [Rk.upd, List.set_cons_succ, List.set_cons_zero])) | ((with_reducible refine Rk.wpR_feq Rk.good_bel (k := ?_) (X := ?_) (Y := ?_) (S := ?_) (T := ?_) ?_ ?_ ?_ ?_ ?_ ?_); rotate_left 5; (first | exact Rk.yes_none | exact Rk.yes_some rfl rfl); (simp only [Rk.slotS, List.getD_cons_succ, List.getD_cons_zero]; rfl); (simp only [Rk.slotS, List.getD_cons_succ, List.getD_cons_zero]; rfl); (first | exact Rk.subF_is _ _ | (refine Rk.subF_eq ?_; (first | assumption | ((refine Is.lit ?_); decide +kernel) | (refine Is.ofInt _ _)))); (first | exact Rk.subF_is _ _ | (refine Rk.subF_eq ?_; (first | assumption | ((refine Is.lit ?_); decide +kernel) | (refine Is.ofInt _ _)))); (try simp only [Rk.upd, List.set_cons_succ, List.set_cons_zero])) | ((with_reducible refine Rk.wpR_fne Rk.good_bel (k := ?_) (X := ?_) (Y := ?_) (S := ?_) (T := ?_) ?_ ?_ ?_ ?_ ?_ ?_); rotate_left 5; (first | exact Rk.yes_none | exact Rk.yes_some rfl rfl); (simp only [Rk.slotS, List.getD_cons_succ, List.getD_cons_zero]; rfl); (simp only [Rk.slotS, List.getD_cons_succ, List.getD_cons_zero]; rfl); (first | exact Rk.subF_is _ _ | (refine Rk.subF_eq ?_; (first | assumption | ((refine Is.lit ?_); decide +kernel) | (refine Is.ofInt _ _)))); (first | exact Rk.subF_is _ _ | (refine Rk.subF_eq ?_; (first | assumption | ((refine Is.lit ?_); decide +kernel) | (refine Is.ofInt _ _)))); (try simp only [Rk.upd, List.set_cons_succ, List.set_cons_zero])) | ((with_reducible refine Rk.wpR_flt Rk.good_bel (k := ?_) (X := ?_) (Y := ?_) (S := ?_) (T := ?_) ?_ ?_ ?_ ?_ ?_ ?_); rotate_left 5; (first | exact Rk.yes_none | exact Rk.yes_some rfl rfl); (simp only [Rk.slotS, List.getD_cons_succ, List.getD_cons_zero]; rfl); (simp only [Rk.slotS, List.getD_cons_succ, List.getD_cons_zero]; rfl); (first | exact Rk.subF_is _ _ | (refine Rk.subF_eq ?_; (first | assumption | ((refine Is.lit ?_); decide +kernel) | (refine Is.ofInt _ _)))); (first | exact Rk.subF_is _ _ | (refine Rk.subF_eq ?_; (first | assumption | ((refine Is.lit ?_); decide +kernel) | (refine Is.ofInt _ _)))); (try simp only [Rk.upd, List.set_cons_succ, List.set_cons_zero])) | ((with_reducible refine Rk.wpR_fgt Rk.good_bel (k := ?_) (X := ?_) (Y := ?_) (S := ?_) (T := ?_) ?_ ?_ ?_ ?_ ?_ ?_); rotate_left 5; (first | exact Rk.yes_none | exact Rk.yes_some rfl rfl); (simp only [Rk.slotS, List.getD_cons_succ, List.getD_cons_zero]; rfl); (simp only [Rk.slotS, List.getD_cons_succ, List.getD_cons_zero]; rfl); (first | exact Rk.subF_is _ _ | (refine Rk.subF_eq ?_; (first | assumption | ((refine Is.lit ?_); decide +kernel) | (refine Is.ofInt _ _)))); (first | exact Rk.subF_is _ _ | (refine Rk.subF_eq ?_; (first | assumption | ((refine Is.lit ?_); decide +kernel) | (refine Is.ofInt _ _)))); (try simp only [Rk.upd, List.set_cons_succ, List.set_cons_zero])) | ((with_reducible refine Rk.wpR_fge Rk.good_bel (k := ?_) (X := ?_) (Y := ?_) (S := ?_) (T := ?_) ?_ ?_ ?_ ?_ ?_ ?_); rotate_left 5; (first | exact Rk.yes_none | exact Rk.yes_some rfl rfl); (simp only [Rk.slotS, List.getD_cons_succ, List.getD_cons_zero]; rfl); (simp only [Rk.slotS, List.getD_cons_succ, List.getD_cons_zero]; rfl); (first | exact Rk.subF_is _ _ | (refine Rk.subF_eq ?_; (first | assumption | ((refine Is.lit ?_); decide +kernel) | (refine Is.ofInt _ _)))); (first | exact Rk.subF_is _ _ | (refine Rk.subF_eq ?_; (first | assumption | ((refine Is.lit ?_); decide +kernel) | (refine Is.ofInt _ _)))); (try simp only [Rk.upd, List.set_cons_succ, List.set_cons_zero])) | ((with_reducible refine Rk.wpR_fle Rk.good_bel (k := ?_) (X := ?_) (Y := ?_) (S := ?_) (T := ?_) ?_ ?_ ?_ ?_ ?_ ?_); rotate_left 5; (first | exact Rk.yes_none | exact Rk.yes_some rfl rfl); (simp only [Rk.slotS, List.getD_cons_succ, List.getD_cons_zero]; rfl); (simp only [Rk.slotS, List.getD_cons_succ, List.getD_cons_zero]; rfl); (first | exact Rk.subF_is _ _ | (refine Rk.subF_eq ?_; (first | assumption | ((refine Is.lit ?_); decide +kernel) | (refine Is.ofInt _ _)))); (first | exact Rk.subF_is _ _ | (refine Rk.subF_eq ?_; (first | assumption | ((refine Is.lit ?_); decide +kernel) | (refine Is.ofInt _ _)))); (try simp only [Rk.upd, List.set_cons_succ, List.set_cons_zero])) | ((with_reducible refine Rk.wpR_indexAddr Rk.good_bel (v := ?_) (v' := ?_) (u := ?_) ?_ ?_ ?_ ?_ ?_); rotate_left 3; (first | exact Rk.yes_none | exact Rk.yes_some rfl rfl); (simp only [Rk.slotS, List.getD_cons_succ, List.getD_cons_zero]; rfl); (simp only [Rk.slotS, List.getD_cons_succ, List.getD_cons_zero]; rfl); (intro ρ w' hw hK1 hK2; go_simp; rfl); (try simp only [Rk.upd, List.set_cons_succ, List.set_cons_zero])) | ((with_reducible refine Rk.wpR_binOp Rk.good_bel (v := ?_) (v' := ?_) (u := ?_) ?_ ?_ ?_ ?_ ?_); rotate_left 3; (first | exact Rk.yes_none | exact Rk.yes_some rfl rfl); (simp only [Rk.slotS, List.getD_cons_succ, List.getD_cons_zero]; rfl); (simp only [Rk.slotS, List.getD_cons_succ, List.getD_cons_zero]; rfl); (intro ρ w' hw hK1 hK2; go_simp; rfl); (try simp only [Rk.upd, List.set_cons_succ, List.set_cons_zero])) | ((with_reducible refine Rk.wpR_load Rk.good_bel (v := ?_) (u := ?_) ?_ ?_ ?_ ?_); rotate_left 2; (first | exact Rk.yes_none | exact Rk.yes_some rfl rfl); (simp only [Rk.slotS, List.getD_cons_succ, List.getD_cons_zero]; rfl); (intro ρ w' hw hK1; skip; go_simp; rfl); (try simp only [Rk.upd, List.set_cons_succ, List.set_cons_zero])) | ((with_reducible refine Rk.wpR_unOp Rk.good_bel (v := ?_) (u := ?_) ?_ ?_ ?_ ?_); rotate_left 2; (first | exact Rk.yes_none | exact Rk.yes_some rfl rfl); (simp only [Rk.slotS, List.getD_cons_succ, List.getD_cons_zero]; rfl); (intro ρ w' hw hK1; go_simp; rfl); (try simp only [Rk.upd, List.set_cons_succ, List.set_cons_zero])) | ((with_reducible refine Rk.wpR_convert Rk.good_bel (v := ?_) (u := ?_) ?_ ?_ ?_ ?_); rotate_left 2; (first | exact Rk.yes_none | exact Rk.yes_some rfl rfl); (simp only [Rk.slotS, List.getD_cons_succ, List.getD_cons_zero]; rfl); (intro ρ w' hw hK1; go_simp; rfl); (try simp only [Rk.upd, List.set_cons_succ, List.set_cons_zero])) | ((with_reducible refine Rk.wpR_field Rk.good_bel (v := ?_) (u := ?_) ?_ ?_ ?_ ?_); rotate_left 2; (first | exact Rk.yes_none | exact Rk.yes_some rfl rfl); (simp only [Rk.slotS, List.getD_cons_succ, List.getD_cons_zero]; rfl); (intro ρ w' hw hK1; go_simp; rfl); (try simp only [Rk.upd, List.set_cons_succ, List.set_cons_zero])) | ((with_reducible refine Rk.wpR_fieldAddr Rk.good_bel (v := ?_) (u := ?_) ?_ ?_ ?_ ?_); rotate_left 2; (first | exact Rk.yes_none | exact Rk.yes_some rfl rfl); (simp only [Rk.slotS, List.getD_cons_succ, List.getD_cons_zero]; rfl); (intro ρ w' hw hK1; go_simp; rfl); (try simp only [Rk.upd, List.set_cons_succ, List.set_cons_zero])) | ((with_reducible refine Rk.wpR_nilCheck Rk.good_bel (v := ?_) (u := ?_) ?_ ?_ ?_ ?_); rotate_left 2; (first | exact Rk.yes_none | exact Rk.yes_some rfl rfl); (simp only [Rk.slotS, List.getD_cons_succ, List.getD_cons_zero]; rfl); (intro ρ w' hw hK1; go_simp; rfl); (try simp only [Rk.upd, List.set_cons_succ, List.set_cons_zero])) | ((with_reducible refine Rk.wpR_builtin1 Rk.good_bel (v := ?_) (u := ?_) ?_ ?_ ?_ ?_); rotate_left 2; (first | exact Rk.yes_none | exact Rk.yes_some rfl rfl); (simp only [Rk.slotS, List.getD_cons_succ, List.getD_cons_zero]; rfl); (intro ρ w' hw hK1; go_simp; rfl); (try simp only [Rk.upd, List.set_cons_succ, List.set_cons_zero])) | ((with_reducible refine Rk.wpR_extract Rk.good_bel (v := ?_) (u := ?_) ?_ ?_ ?_ ?_); rotate_left 2; (first | exact Rk.yes_none | exact Rk.yes_some rfl rfl); (simp only [Rk.slotS, List.getD_cons_succ, List.getD_cons_zero]; rfl); (intro ρ w' hw hK1; go_simp; rfl); (try simp only [Rk.upd, List.set_cons_succ, List.set_cons_zero])))
  refine Rk.wpR_end ?_; intro w7 hB; (repeat (first | refine Rk.all2_is1 ?_ | (refine Rk.all2_isF ?_; intro r hr) | (refine Rk.all2_any ?_; intro vK hvK; clear hvK))); refine Rk.all2_nil ?_
  replace hX_a := Lib.hid ((hX_a.out).bel hB)
  replace hX_w0 := Lib.hid ((hX_w0.out).bel hB)
  replace hX_xa := Lib.hid ((hX_xa.out).bel hB)
  replace hX_g := Lib.hid ((hX_g.out).bel hB)
  replace hR_a := Lib.hid ((hR_a.out).bel hB)
  replace hR_r := Lib.hid ((hR_r.out).bel hB)
  replace hR_w0 := Lib.hid ((hR_w0.out).bel hB)
  replace hR_xa := Lib.hid ((hR_xa.out).bel hB)
  replace hR_g := Lib.hid ((hR_g.out).bel hB)
  replace hW := Lib.hid ((hW.out).trans hB)
  have hsw7 := Lib.hid (show w6.heap.size + 0 ≤ w7.heap.size from by have := Below.size hB; (try simp at this); omega)
  clear hB
  obtain ⟨_, ca0, ca1, ca2⟩ := hX_a.out
  obtain ⟨_, cw00, cw01, cw02⟩ := hX_w0.out
  obtain ⟨_, cxa0, cxa1, cxa2⟩ := hX_xa.out
  obtain ⟨_, cg0, cg1, cg2⟩ := hX_g.out
  go_wp2_with fail
  clear ca0 ca1 ca2
  clear cw00 cw01 cw02
  clear cxa0 cxa1 cxa2
  clear cg0 cg1 cg2
  refine (markHill_any _ _ _ Wa Ha _ na _ 1 xsa hR_xa.out (by omega) (by omega)).mono ?_
  rintro e w8 ⟨rfl, wm, hB, hM, hO⟩
  replace hX_a := Lib.hid (hX_a.out.bel hB)
  replace hX_w0 := Lib.hid (hX_w0.out.bel hB)
  replace hX_xa := Lib.hid (hX_xa.out.bel hB)
  replace hX_g := Lib.hid (hX_g.out.bel hB)
  replace hR_a := Lib.hid (hR_a.out.bel hB)
  replace hR_r := Lib.hid (hR_r.out.bel hB)
  replace hR_w0 := Lib.hid (hR_w0.out.bel hB)
  replace hR_xa := Lib.hid (hR_xa.out.bel hB)
  replace hR_g := Lib.hid (hR_g.out.bel hB)
  replace hW := Lib.hid (hW.out.trans hB)
  have hsm := Lib.hid (show w7.heap.size ≤ wm.heap.size from Below.size hB)
  clear hB
  replace hX_a := Lib.hid (hX_a.out.only hO (fun a ha => by have t0 := hsw1.out; have t1 := hsw2.out; have t2 := hsw3.out; have t3 := hsw4.out; have t4 := hsw5.out; have t5 := hsw6.out; have t6 := hsw7.out; have ta := hR_xa.out.own a ha; have tb := hX_a.out.1; omega))
  replace hX_w0 := Lib.hid (hX_w0.out.only hO (fun a ha => by have t0 := hsw1.out; have t1 := hsw2.out; have t2 := hsw3.out; have t3 := hsw4.out; have t4 := hsw5.out; have t5 := hsw6.out; have t6 := hsw7.out; have ta := hR_xa.out.own a ha; have tb := hX_w0.out.1; omega))
  replace hX_xa := Lib.hid (hX_xa.out.only hO (fun a ha => by have t0 := hsw1.out; have t1 := hsw2.out; have t2 := hsw3.out; have t3 := hsw4.out; have t4 := hsw5.out; have t5 := hsw6.out; have t6 := hsw7.out; have ta := hR_xa.out.own a ha; have tb := hX_xa.out.1; omega))
  replace hX_g := Lib.hid (hX_g.out.only hO (fun a ha => by have t0 := hsw1.out; have t1 := hsw2.out; have t2 := hsw3.out; have t3 := hsw4.out; have t4 := hsw5.out; have t5 := hsw6.out; have t6 := hsw7.out; have ta := hR_xa.out.own a ha; have tb := hX_g.out.1; omega))
  replace hR_a := Lib.hid (hR_a.out.only hO (fun hz a b ha hb => by have t0 := hsw1.out; have t1 := hsw2.out; have t2 := hsw3.out; have t3 := hsw4.out; have t4 := hsw5.out; have t5 := hsw6.out; have t6 := hsw7.out; have ta := hR_xa.out.own b hb; have tb := hL_a.out hz a ha; omega))
  replace hR_r := Lib.hid (hR_r.out.only hO (fun a b ha hb => by have t0 := hsw1.out; have t1 := hsw2.out; have t2 := hsw3.out; have t3 := hsw4.out; have t4 := hsw5.out; have t5 := hsw6.out; have t6 := hsw7.out; have ta := hR_xa.out.own b hb; have tb := hR_r.out.own a ha; omega))
  replace hR_w0 := Lib.hid (hR_w0.out.only hO (fun a b ha hb => by have t0 := hsw1.out; have t1 := hsw2.out; have t2 := hsw3.out; have t3 := hsw4.out; have t4 := hsw5.out; have t5 := hsw6.out; have t6 := hsw7.out; have ta := hR_xa.out.own b hb; have tb := hR_w0.out.own a ha; omega))
  replace hR_g := Lib.hid (hR_g.out.only hO (fun a b ha hb => by have t0 := hsw1.out; have t1 := hsw2.out; have t2 := hsw3.out; have t3 := hsw4.out; have t4 := hsw5.out; have t5 := hsw6.out; have t6 := hsw7.out; have ta := hR_xa.out.own b hb; have tb := hR_g.out.own a ha; omega))
  replace hW := Lib.hid (bel_only hW.out hO (fun a ha => by have t0 := hsw1.out; have t1 := hsw2.out; have t2 := hsw3.out; have t3 := hsw4.out; have t4 := hsw5.out; have t5 := hsw6.out; have t6 := hsw7.out; have ta := hR_xa.out.own a ha; omega))
  have hsw8 := Lib.hid (show w7.heap.size ≤ w8.heap.size from by have := hO.size; have := hsm.out; omega)
  replace hR_xa := Lib.hid hM
  clear hO hM hsm
  obtain ⟨_, ca0, ca1, ca2⟩ := hX_a.out
  obtain ⟨_, cw00, cw01, cw02⟩ := hX_w0.out
  obtain ⟨_, cxa0, cxa1, cxa2⟩ := hX_xa.out
  obtain ⟨_, cg0, cg1, cg2⟩ := hX_g.out
  go_wp2_with fail
  clear ca0 ca1 ca2
  clear cw00 cw01 cw02
  clear cxa0 cxa1 cxa2
  clear cg0 cg1 cg2
  refine (eqHill_any _ R.W R.H _ _ _ _ _ xs_g xs_w0 (by exact hR_g.out.row) (by exact hR_w0.out.row) (by omega) (eqAll_of hR_g.out.row hR_w0.out.row (fun i hi => by rw [hF_g.out i hi, hF_w0.out i hi]))).mono ?_
  rintro e w9 ⟨rfl, hB⟩
  replace hX_a := Lib.hid ((hX_a.out).bel hB)
  replace hX_w0 := Lib.hid ((hX_w0.out).bel hB)
  replace hX_xa := Lib.hid ((hX_xa.out).bel hB)
  replace hX_g := Lib.hid ((hX_g.out).bel hB)
  replace hR_a := Lib.hid ((hR_a.out).bel hB)
  replace hR_r := Lib.hid ((hR_r.out).bel hB)
  replace hR_w0 := Lib.hid ((hR_w0.out).bel hB)
  replace hR_xa := Lib.hid ((hR_xa.out).bel hB)
  replace hR_g := Lib.hid ((hR_g.out).bel hB)
  replace hW := Lib.hid ((hW.out).trans hB)
  have hsw9 := Lib.hid (show w8.heap.size + 0 ≤ w9.heap.size from by have := Below.size hB; (try simp at this); omega)
  clear hB
  obtain ⟨_, ca0, ca1, ca2⟩ := hX_a.out
  obtain ⟨_, cw00, cw01, cw02⟩ := hX_w0.out
  obtain ⟨_, cxa0, cxa1, cxa2⟩ := hX_xa.out
  obtain ⟨_, cg0, cg1, cg2⟩ := hX_g.out
  go_wp2_with fail
  clear ca0 ca1 ca2
  clear cw00 cw01 cw02
  clear cxa0 cxa1 cxa2
  clear cg0 cg1 cg2
  refine (markHill_any _ _ _ R.W R.H _ R.n _ 1 xs_g hR_g.out (by omega) (by omega)).mono ?_
  rintro e w10 ⟨rfl, wm, hB, hM, hO⟩
  replace hX_a := Lib.hid (hX_a.out.bel hB)
  replace hX_w0 := Lib.hid (hX_w0.out.bel hB)
  replace hX_xa := Lib.hid (hX_xa.out.bel hB)
  replace hX_g := Lib.hid (hX_g.out.bel hB)
  replace hR_a := Lib.hid (hR_a.out.bel hB)
  replace hR_r := Lib.hid (hR_r.out.bel hB)
  replace hR_w0 := Lib.hid (hR_w0.out.bel hB)
  replace hR_xa := Lib.hid (hR_xa.out.bel hB)
  replace hR_g := Lib.hid (hR_g.out.bel hB)
  replace hW := Lib.hid (hW.out.trans hB)
  have hsm := Lib.hid (show w9.heap.size ≤ wm.heap.size from Below.size hB)
  clear hB
  replace hX_a := Lib.hid (hX_a.out.only hO (fun a ha => by have t0 := hsw1.out; have t1 := hsw2.out; have t2 := hsw3.out; have t3 := hsw4.out; have t4 := hsw5.out; have t5 := hsw6.out; have t6 := hsw7.out; have t7 := hsw8.out; have t8 := hsw9.out; have ta := hR_g.out.own a ha; have tb := hX_a.out.1; omega))
  replace hX_w0 := Lib.hid (hX_w0.out.only hO (fun a ha => by have t0 := hsw1.out; have t1 := hsw2.out; have t2 := hsw3.out; have t3 := hsw4.out; have t4 := hsw5.out; have t5 := hsw6.out; have t6 := hsw7.out; have t7 := hsw8.out; have t8 := hsw9.out; have ta := hR_g.out.own a ha; have tb := hX_w0.out.1; omega))
  replace hX_xa := Lib.hid (hX_xa.out.only hO (fun a ha => by have t0 := hsw1.out; have t1 := hsw2.out; have t2 := hsw3.out; have t3 := hsw4.out; have t4 := hsw5.out; have t5 := hsw6.out; have t6 := hsw7.out; have t7 := hsw8.out; have t8 := hsw9.out; have ta := hR_g.out.own a ha; have tb := hX_xa.out.1; omega))
  replace hX_g := Lib.hid (hX_g.out.only hO (fun a ha => by have t0 := hsw1.out; have t1 := hsw2.out; have t2 := hsw3.out; have t3 := hsw4.out; have t4 := hsw5.out; have t5 := hsw6.out; have t6 := hsw7.out; have t7 := hsw8.out; have t8 := hsw9.out; have ta := hR_g.out.own a ha; have tb := hX_g.out.1; omega))
  replace hR_a := Lib.hid (hR_a.out.only hO (fun hz a b ha hb => by have t0 := hsw1.out; have t1 := hsw2.out; have t2 := hsw3.out; have t3 := hsw4.out; have t4 := hsw5.out; have t5 := hsw6.out; have t6 := hsw7.out; have t7 := hsw8.out; have t8 := hsw9.out; have ta := hR_g.out.own b hb; have tb := hL_a.out hz a ha; omega))
  replace hR_r := Lib.hid (hR_r.out.only hO (fun a b ha hb => by have t0 := hsw1.out; have t1 := hsw2.out; have t2 := hsw3.out; have t3 := hsw4.out; have t4 := hsw5.out; have t5 := hsw6.out; have t6 := hsw7.out; have t7 := hsw8.out; have t8 := hsw9.out; have ta := hR_g.out.own b hb; have tb := hR_r.out.own a ha; omega))
  replace hR_w0 := Lib.hid (hR_w0.out.only hO (fun a b ha hb => by have t0 := hsw1.out; have t1 := hsw2.out; have t2 := hsw3.out; have t3 := hsw4.out; have t4 := hsw5.out; have t5 := hsw6.out; have t6 := hsw7.out; have t7 := hsw8.out; have t8 := hsw9.out; have ta := hR_g.out.own b hb; have tb := hR_w0.out.own a ha; omega))
  replace hR_xa := Lib.hid (hR_xa.out.only hO (fun a b ha hb => by have t0 := hsw1.out; have t1 := hsw2.out; have t2 := hsw3.out; have t3 := hsw4.out; have t4 := hsw5.out; have t5 := hsw6.out; have t6 := hsw7.out; have t7 := hsw8.out; have t8 := hsw9.out; have ta := hR_g.out.own b hb; have tb := hR_xa.out.own a ha; omega))
  replace hW := Lib.hid (bel_only hW.out hO (fun a ha => by have t0 := hsw1.out; have t1 := hsw2.out; have t2 := hsw3.out; have t3 := hsw4.out; have t4 := hsw5.out; have t5 := hsw6.out; have t6 := hsw7.out; have t7 := hsw8.out; have t8 := hsw9.out; have ta := hR_g.out.own a ha; omega))
  have hsw10 := Lib.hid (show w9.heap.size ≤ w10.heap.size from by have := hO.size; have := hsm.out; omega)
  replace hR_g := Lib.hid hM
  clear hO hM hsm
  obtain ⟨_, ca0, ca1, ca2⟩ := hX_a.out
  obtain ⟨_, cw00, cw01, cw02⟩ := hX_w0.out
  obtain ⟨_, cxa0, cxa1, cxa2⟩ := hX_xa.out
  obtain ⟨_, cg0, cg1, cg2⟩ := hX_g.out
  go_wp2_with fail
  clear ca0 ca1 ca2
  clear cw00 cw01 cw02
  clear cxa0 cxa1 cxa2
  clear cg0 cg1 cg2
  refine (heldHill_any _ R.W R.H _ R.n _ 1 (by exact hR_g.out.row) (by omega) (by omega)).mono ?_
  rintro e w11 ⟨rfl, hB⟩
  replace hX_a := Lib.hid ((hX_a.out).bel hB)
  replace hX_w0 := Lib.hid ((hX_w0.out).bel hB)
  replace hX_xa := Lib.hid ((hX_xa.out).bel hB)
  replace hX_g := Lib.hid ((hX_g.out).bel hB)
  replace hR_a := Lib.hid ((hR_a.out).bel hB)
  replace hR_r := Lib.hid ((hR_r.out).bel hB)
  replace hR_w0 := Lib.hid ((hR_w0.out).bel hB)
  replace hR_xa := Lib.hid ((hR_xa.out).bel hB)
  replace hR_g := Lib.hid ((hR_g.out).bel hB)
  replace hW := Lib.hid ((hW.out).trans hB)
  have hsw11 := Lib.hid (show w10.heap.size + 0 ≤ w11.heap.size from by have := Below.size hB; (try simp at this); omega)
  clear hB
  obtain ⟨_, ca0, ca1, ca2⟩ := hX_a.out
  obtain ⟨_, cw00, cw01, cw02⟩ := hX_w0.out
  obtain ⟨_, cxa0, cxa1, cxa2⟩ := hX_xa.out
  obtain ⟨_, cg0, cg1, cg2⟩ := hX_g.out
  go_wp2_with fail
  clear ca0 ca1 ca2
  clear cw00 cw01 cw02
  clear cxa0 cxa1 cxa2
  clear cg0 cg1 cg2
  refine (toHill_any _ Wa Ha aoa na ca xsa (by exact hR_a.out) (by omega)).mono ?_
  rintro e w12 ⟨ao_r2, rfl, hR_r2, hB⟩
  replace hR_r2 := Lib.hid hR_r2
  replace hX_a := Lib.hid ((hX_a.out).bel hB)
  replace hX_w0 := Lib.hid ((hX_w0.out).bel hB)
  replace hX_xa := Lib.hid ((hX_xa.out).bel hB)
  replace hX_g := Lib.hid ((hX_g.out).bel hB)
  replace hR_a := Lib.hid ((hR_a.out).bel hB)
  replace hR_r := Lib.hid ((hR_r.out).bel hB)
  replace hR_w0 := Lib.hid ((hR_w0.out).bel hB)
  replace hR_xa := Lib.hid ((hR_xa.out).bel hB)
  replace hR_g := Lib.hid ((hR_g.out).bel hB)
  replace hW := Lib.hid ((hW.out).trans hB)
  have hsw12 := Lib.hid (show w11.heap.size + 0 ≤ w12.heap.size from by have := Below.size hB; (try simp at this); omega)
  clear hB
  obtain ⟨_, ca0, ca1, ca2⟩ := hX_a.out
  obtain ⟨_, cw00, cw01, cw02⟩ := hX_w0.out
  obtain ⟨_, cxa0, cxa1, cxa2⟩ := hX_xa.out
  obtain ⟨_, cg0, cg1, cg2⟩ := hX_g.out
  go_wp2_with fail
  clear ca0 ca1 ca2
  clear cw00 cw01 cw02
  clear cxa0 cxa1 cxa2
  clear cg0 cg1 cg2
  refine (hI'.out _ _ _ (by exact hR_r2.out.row)).mono ?_
  rintro e w13 ⟨ao_h2, c_h2, xs_h2, rfl, hR_h2, hF_h2, hB⟩
  replace hR_h2 := Lib.hid hR_h2
  replace hF_h2 := Lib.hid hF_h2
  replace hX_a := Lib.hid ((hX_a.out).bel hB)
  replace hX_w0 := Lib.hid ((hX_w0.out).bel hB)
  replace hX_xa := Lib.hid ((hX_xa.out).bel hB)
  replace hX_g := Lib.hid ((hX_g.out).bel hB)
  replace hR_a := Lib.hid ((hR_a.out).bel hB)
  replace hR_r := Lib.hid ((hR_r.out).bel hB)
  replace hR_w0 := Lib.hid ((hR_w0.out).bel hB)
  replace hR_xa := Lib.hid ((hR_xa.out).bel hB)
  replace hR_g := Lib.hid ((hR_g.out).bel hB)
  replace hR_r2 := Lib.hid ((hR_r2.out).bel hB)
  replace hW := Lib.hid ((hW.out).trans hB)
  have hsw13 := Lib.hid (show w12.heap.size + 0 ≤ w13.heap.size from by have := Below.size hB; (try simp at this); omega)
  clear hB
  obtain ⟨_, ca0, ca1, ca2⟩ := hX_a.out
  obtain ⟨_, cw00, cw01, cw02⟩ := hX_w0.out
  obtain ⟨_, cxa0, cxa1, cxa2⟩ := hX_xa.out
  obtain ⟨_, cg0, cg1, cg2⟩ := hX_g.out
  go_wp2_with fail
  clear ca0 ca1 ca2
  clear cw00 cw01 cw02
  clear cxa0 cxa1 cxa2
  clear cg0 cg1 cg2
  refine (eqHill_any _ R.W R.H _ _ _ _ _ xs_h2 xs_w0 (by exact (hR_h2.out.alloc _).row) (by exact (hR_w0.out.alloc _).row) (by omega) (eqAll_of hR_h2.out.row hR_w0.out.row (fun i hi => by rw [hF_h2.out i hi, hF_w0.out i hi]))).mono ?_
  rintro e w14 ⟨rfl, hB⟩
  replace hX_a := Lib.hid (((hX_a.out.alloc _)).bel hB)
  replace hX_w0 := Lib.hid (((hX_w0.out.alloc _)).bel hB)
  replace hX_xa := Lib.hid (((hX_xa.out.alloc _)).bel hB)
  replace hX_g := Lib.hid (((hX_g.out.alloc _)).bel hB)
  replace hR_a := Lib.hid (((hR_a.out.alloc _)).bel hB)
  replace hR_r := Lib.hid (((hR_r.out.alloc _)).bel hB)
  replace hR_w0 := Lib.hid (((hR_w0.out.alloc _)).bel hB)
  replace hR_xa := Lib.hid (((hR_xa.out.alloc _)).bel hB)
  replace hR_g := Lib.hid (((hR_g.out.alloc _)).bel hB)
  replace hR_r2 := Lib.hid (((hR_r2.out.alloc _)).bel hB)
  replace hR_h2 := Lib.hid (((hR_h2.out.alloc _)).bel hB)
  replace hW := Lib.hid (((hW.out.alloc _)).trans hB)
  have hX_h2 := Lib.hid ((hbox_new w13 R.W R.H (.slice ao_h2 R.n c_h2) 27).bel hB)
  have hsw14 := Lib.hid (show w13.heap.size + 1 ≤ w14.heap.size from by have := Below.size hB; (try simp at this); omega)
  clear hB
  obtain ⟨_, ca0, ca1, ca2⟩ := hX_a.out
  obtain ⟨_, cw00, cw01, cw02⟩ := hX_w0.out
  obtain ⟨_, cxa0, cxa1, cxa2⟩ := hX_xa.out
  obtain ⟨_, cg0, cg1, cg2⟩ := hX_g.out
  obtain ⟨_, ch20, ch21, ch22⟩ := hX_h2.out
  go_wp2_with fail
  clear ca0 ca1 ca2
  clear cw00 cw01 cw02
  clear cxa0 cxa1 cxa2
  clear cg0 cg1 cg2
  clear ch20 ch21 ch22
  refine (heldHill_any _ R.W R.H _ R.n _ 1 (by exact hR_g.out.row) (by omega) (by omega)).mono ?_
  rintro e w15 ⟨rfl, hB⟩
  replace hX_a := Lib.hid ((hX_a.out).bel hB)
  replace hX_w0 := Lib.hid ((hX_w0.out).bel hB)
  replace hX_xa := Lib.hid ((hX_xa.out).bel hB)
  replace hX_g := Lib.hid ((hX_g.out).bel hB)
  replace hX_h2 := Lib.hid ((hX_h2.out).bel hB)
  replace hR_a := Lib.hid ((hR_a.out).bel hB)
  replace hR_r := Lib.hid ((hR_r.out).bel hB)
  replace hR_w0 := Lib.hid ((hR_w0.out).bel hB)
  replace hR_xa := Lib.hid ((hR_xa.out).bel hB)
  replace hR_g := Lib.hid ((hR_g.out).bel hB)
  replace hR_r2 := Lib.hid ((hR_r2.out).bel hB)
  replace hR_h2 := Lib.hid ((hR_h2.out).bel hB)
  replace hW := Lib.hid ((hW.out).trans hB)
  have hsw15 := Lib.hid (show w14.heap.size + 0 ≤ w15.heap.size from by have := Below.size hB; (try simp at this); omega)
  clear hB
  obtain ⟨_, ca0, ca1, ca2⟩ := hX_a.out
  obtain ⟨_, cw00, cw01, cw02⟩ := hX_w0.out
  obtain ⟨_, cxa0, cxa1, cxa2⟩ := hX_xa.out
  obtain ⟨_, cg0, cg1, cg2⟩ := hX_g.out
  obtain ⟨_, ch20, ch21, ch22⟩ := hX_h2.out
  go_wp2_with fail
  go_ret
  exact ⟨rfl, hW.out⟩
end Go.Proofs.Ytobghfjkkkfecaa
