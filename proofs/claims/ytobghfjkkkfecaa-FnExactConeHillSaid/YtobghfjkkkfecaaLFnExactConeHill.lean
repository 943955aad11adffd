/-
  THE LAW 'FnExactConeHill': its walk, over the contracts of the two functions. (Printed by a program of mine.)
-/
import Derived.Test.YtobghfjkkkfecaaH4
set_option linter.unusedSimpArgs false
set_option linter.unusedVariables false
namespace Go.Proofs.Ytobghfjkkkfecaa
open Go.RowKit Go.Fl

set_option maxRecDepth 100000 in
set_option maxHeartbeats 8000000 in
theorem lawFnExactConeHill (w : World) (W H : Int) (x1 x2 : Nat) (R : HillR) (hRn : R.n ≤ 1048576)
    (hS : ∀ w, Calls Try.prog 42 #[.int .i64 W, .int .i64 H, .float .f32 x1, .float .f32 x2] w (HRet R w)) (hI : ∀ w, Calls Try.prog 43 #[.int .i64 W, .int .i64 H, .float .f32 x1, .float .f32 x2] w (HRet R w)) :
    Calls Try.prog 13 #[.int .i64 W, .int .i64 H, .float .f32 x1, .float .f32 x2] w (fun e w' => e = .returned (.bool true) ∧ Bel w w') := by
  have hS' := Lib.hid hS
  have hI' := Lib.hid hI
  clear hS hI
  have hW := Lib.hid (Bel.refl w)
  go_enter Try.func13, Try.ntmps13
  go_wp2_with fail
  refine (hS'.out _).mono ?_
  rintro e w1 ⟨ao_w0, c_w0, xs_w0, rfl, hR_w0, hF_w0, hB⟩
  replace hR_w0 := Lib.hid hR_w0
  replace hF_w0 := Lib.hid hF_w0
  replace hW := Lib.hid ((hW.out).trans hB)
  have hsw1 := Lib.hid (show w.heap.size + 0 ≤ w1.heap.size from by have := Below.size hB; (try simp at this); omega)
  clear hB
  go_wp2_with fail
  refine (hI'.out _).mono ?_
  rintro e w2 ⟨ao_g, c_g, xs_g, rfl, hR_g, hF_g, hB⟩
  replace hR_g := Lib.hid (hR_g.mono (show w1.heap.size + 1 ≤ _ from by simp) (Nat.le_refl _))
  replace hF_g := Lib.hid hF_g
  replace hR_w0 := Lib.hid (((hR_w0.out.alloc _)).bel hB)
  replace hW := Lib.hid (((hW.out.alloc _)).trans hB)
  have hX_w0 := Lib.hid ((hbox_new w1 R.W R.H (.slice ao_w0 R.n c_w0) 27).bel hB)
  have hsw2 := Lib.hid (show w1.heap.size + 1 ≤ w2.heap.size from by have := Below.size hB; (try simp at this); omega)
  clear hB
  obtain ⟨_, cw00, cw01, cw02⟩ := hX_w0.out
  go_wp2_with fail
  clear cw00 cw01 cw02
  refine (eqHill_any _ R.W R.H _ _ _ _ _ xs_g xs_w0 (by exact (hR_g.out.alloc _).row) (by exact (hR_w0.out.alloc _).row) (by omega) (eqAll_of hR_g.out.row hR_w0.out.row (fun i hi => by rw [hF_g.out i hi, hF_w0.out i hi]))).mono ?_
  rintro e w3 ⟨rfl, hB⟩
  replace hX_w0 := Lib.hid (((hX_w0.out.alloc _)).bel hB)
  replace hR_w0 := Lib.hid (((hR_w0.out.alloc _)).bel hB)
  replace hR_g := Lib.hid (((hR_g.out.alloc _)).bel hB)
  replace hW := Lib.hid (((hW.out.alloc _)).trans hB)
  have hX_g := Lib.hid ((hbox_new w2 R.W R.H (.slice ao_g R.n c_g) 27).bel hB)
  have hsw3 := Lib.hid (show w2.heap.size + 1 ≤ w3.heap.size from by have := Below.size hB; (try simp at this); omega)
  clear hB
  obtain ⟨_, cw00, cw01, cw02⟩ := hX_w0.out
  obtain ⟨_, cg0, cg1, cg2⟩ := hX_g.out
  go_wp2_with fail
  clear cw00 cw01 cw02
  clear cg0 cg1 cg2
  refine (markHill_any _ _ _ R.W R.H _ R.n _ 1 xs_g hR_g.out (by omega) (by omega)).mono ?_
  rintro e w4 ⟨rfl, wm, hB, hM, hO⟩
  replace hX_w0 := Lib.hid (hX_w0.out.bel hB)
  replace hX_g := Lib.hid (hX_g.out.bel hB)
  replace hR_w0 := Lib.hid (hR_w0.out.bel hB)
  replace hR_g := Lib.hid (hR_g.out.bel hB)
  replace hW := Lib.hid (hW.out.trans hB)
  have hsm := Lib.hid (show w3.heap.size ≤ wm.heap.size from Below.size hB)
  clear hB
  replace hX_w0 := Lib.hid (hX_w0.out.only hO (fun a ha => by have t0 := hsw1.out; have t1 := hsw2.out; have t2 := hsw3.out; have ta := hR_g.out.own a ha; have tb := hX_w0.out.1; omega))
  replace hX_g := Lib.hid (hX_g.out.only hO (fun a ha => by have t0 := hsw1.out; have t1 := hsw2.out; have t2 := hsw3.out; have ta := hR_g.out.own a ha; have tb := hX_g.out.1; omega))
  replace hR_w0 := Lib.hid (hR_w0.out.only hO (fun a b ha hb => by have t0 := hsw1.out; have t1 := hsw2.out; have t2 := hsw3.out; have ta := hR_g.out.own b hb; have tb := hR_w0.out.own a ha; omega))
  replace hW := Lib.hid (bel_only hW.out hO (fun a ha => by have t0 := hsw1.out; have t1 := hsw2.out; have t2 := hsw3.out; have ta := hR_g.out.own a ha; omega))
  have hsw4 := Lib.hid (show w3.heap.size ≤ w4.heap.size from by have := hO.size; have := hsm.out; omega)
  replace hR_g := Lib.hid hM
  clear hO hM hsm
  obtain ⟨_, cw00, cw01, cw02⟩ := hX_w0.out
  obtain ⟨_, cg0, cg1, cg2⟩ := hX_g.out
  go_wp2_with fail
  clear cw00 cw01 cw02
  clear cg0 cg1 cg2
  refine (heldHill_any _ R.W R.H _ R.n _ 1 (by exact hR_g.out.row) (by omega) (by omega)).mono ?_
  rintro e w5 ⟨rfl, hB⟩
  replace hX_w0 := Lib.hid ((hX_w0.out).bel hB)
  replace hX_g := Lib.hid ((hX_g.out).bel hB)
  replace hR_w0 := Lib.hid ((hR_w0.out).bel hB)
  replace hR_g := Lib.hid ((hR_g.out).bel hB)
  replace hW := Lib.hid ((hW.out).trans hB)
  have hsw5 := Lib.hid (show w4.heap.size + 0 ≤ w5.heap.size from by have := Below.size hB; (try simp at this); omega)
  clear hB
  obtain ⟨_, cw00, cw01, cw02⟩ := hX_w0.out
  obtain ⟨_, cg0, cg1, cg2⟩ := hX_g.out
  go_wp2_with fail
  clear cw00 cw01 cw02
  clear cg0 cg1 cg2
  refine (hI'.out _).mono ?_
  rintro e w6 ⟨ao_h2, c_h2, xs_h2, rfl, hR_h2, hF_h2, hB⟩
  replace hR_h2 := Lib.hid hR_h2
  replace hF_h2 := Lib.hid hF_h2
  replace hX_w0 := Lib.hid ((hX_w0.out).bel hB)
  replace hX_g := Lib.hid ((hX_g.out).bel hB)
  replace hR_w0 := Lib.hid ((hR_w0.out).bel hB)
  replace hR_g := Lib.hid ((hR_g.out).bel hB)
  replace hW := Lib.hid ((hW.out).trans hB)
  have hsw6 := Lib.hid (show w5.heap.size + 0 ≤ w6.heap.size from by have := Below.size hB; (try simp at this); omega)
  clear hB
  obtain ⟨_, cw00, cw01, cw02⟩ := hX_w0.out
  obtain ⟨_, cg0, cg1, cg2⟩ := hX_g.out
  go_wp2_with fail
  clear cw00 cw01 cw02
  clear cg0 cg1 cg2
  refine (eqHill_any _ R.W R.H _ _ _ _ _ xs_h2 xs_w0 (by exact (hR_h2.out.alloc _).row) (by exact (hR_w0.out.alloc _).row) (by omega) (eqAll_of hR_h2.out.row hR_w0.out.row (fun i hi => by rw [hF_h2.out i hi, hF_w0.out i hi]))).mono ?_
  rintro e w7 ⟨rfl, hB⟩
  replace hX_w0 := Lib.hid (((hX_w0.out.alloc _)).bel hB)
  replace hX_g := Lib.hid (((hX_g.out.alloc _)).bel hB)
  replace hR_w0 := Lib.hid (((hR_w0.out.alloc _)).bel hB)
  replace hR_g := Lib.hid (((hR_g.out.alloc _)).bel hB)
  replace hR_h2 := Lib.hid (((hR_h2.out.alloc _)).bel hB)
  replace hW := Lib.hid (((hW.out.alloc _)).trans hB)
  have hX_h2 := Lib.hid ((hbox_new w6 R.W R.H (.slice ao_h2 R.n c_h2) 27).bel hB)
  have hsw7 := Lib.hid (show w6.heap.size + 1 ≤ w7.heap.size from by have := Below.size hB; (try simp at this); omega)
  clear hB
  obtain ⟨_, cw00, cw01, cw02⟩ := hX_w0.out
  obtain ⟨_, cg0, cg1, cg2⟩ := hX_g.out
  obtain ⟨_, ch20, ch21, ch22⟩ := hX_h2.out
  go_wp2_with fail
  clear cw00 cw01 cw02
  clear cg0 cg1 cg2
  clear ch20 ch21 ch22
  refine (heldHill_any _ R.W R.H _ R.n _ 1 (by exact hR_g.out.row) (by omega) (by omega)).mono ?_
  rintro e w8 ⟨rfl, hB⟩
  replace hX_w0 := Lib.hid ((hX_w0.out).bel hB)
  replace hX_g := Lib.hid ((hX_g.out).bel hB)
  replace hX_h2 := Lib.hid ((hX_h2.out).bel hB)
  replace hR_w0 := Lib.hid ((hR_w0.out).bel hB)
  replace hR_g := Lib.hid ((hR_g.out).bel hB)
  replace hR_h2 := Lib.hid ((hR_h2.out).bel hB)
  replace hW := Lib.hid ((hW.out).trans hB)
  have hsw8 := Lib.hid (show w7.heap.size + 0 ≤ w8.heap.size from by have := Below.size hB; (try simp at this); omega)
  clear hB
  obtain ⟨_, cw00, cw01, cw02⟩ := hX_w0.out
  obtain ⟨_, cg0, cg1, cg2⟩ := hX_g.out
  obtain ⟨_, ch20, ch21, ch22⟩ := hX_h2.out
  go_wp2_with fail
  go_ret
  exact ⟨rfl, hW.out⟩
end Go.Proofs.Ytobghfjkkkfecaa
