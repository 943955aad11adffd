/-
  CONTRACTS: a rough hill, the reference's.
-/
import Derived.Test.YtobghfjkkkfecaaH24
import Derived.Test.YtobghfjkkkfecaaH11
set_option linter.unusedSimpArgs false
set_option linter.unusedVariables false
namespace Go.Proofs.Ytobghfjkkkfecaa
open Go.RowKit Go.Fl

def seedN (s : Int) : Nat → Int
  | 0 => s
  | k + 1 => (1103515245 * seedN s k + 12345) % 2147483648
theorem seedN_in {s : Int} (h : 0 ≤ s ∧ s ≤ 2147483647) (k : Nat) : 0 ≤ seedN s k ∧ seedN s k ≤ 2147483647 := by
  cases k with
  | zero => exact h
  | succ k => rw [seedN]; omega
def drawnF (z : Int) : Nat := fop .quo .f32 (floatOfInt .f32 (z / 65536 - 16384)) 1182793728
def roughF (xs : List Nat) (BY : Nat) (s : Int) (k : Nat) : Nat := fop .add .f32 (cn .f32 (xs.getD k 0)) (fop .mul .f32 BY (drawnF (seedN s (k + 1))))
def roughR (W H : Int) (n : Nat) (xs : List Nat) (BY : Nat) (s : Int) : HillR := if validB W H n xs && (fin32B BY && inB s 0 2147483647) then madeR W.toNat H.toNat (roughF xs BY s) else noR
theorem roughR_n (W H : Int) (n : Nat) (xs : List Nat) (BY : Nat) (s : Int) : (roughR W H n xs BY s).n ≤ 1048576 := by
  unfold roughR
  split
  · rename_i h
    rw [Bool.and_eq_true] at h
    obtain ⟨a, b, rfl, rfl, ha1, ha2, hb1, hb2, rfl, hf⟩ := valid_nat h.1
    have h256 : b * a ≤ 256 := Nat.mul_le_mul hb2 ha2
    unfold madeR
    split
    · show (b : Int).toNat * (a : Int).toNat ≤ 1048576
      simp; omega
    · exact Nat.zero_le _
  · exact Nat.zero_le _
def roughZ (W H : Int) (n : Nat) (xs : List Nat) (BY : Nat) (s : Int) : Int := if (roughR W H n xs BY s).ok then seedN s (roughR W H n xs BY s).n else 0
def RoRet (R : HillR) (z : Int) (w : World) (e : Ending) (w' : World) : Prop := ∃ ao c xs, e = .returned (.tuple #[hillV R.W R.H ao R.n c, .int .i64 z, .bool R.ok]) ∧ ORow w.heap.size w'.heap.size w' ao R.n xs ∧ (∀ i, i < R.n → cn .f32 (xs.getD i 0) = R.F i) ∧ Bel w w'
theorem roret_set3 {W H : Int} {n : Nat} {xs : List Nat} {BY : Nat} {s : Int} {w w5 : World} {b g cap : Nat} {a1 b1 N : Nat} {F : Nat → Nat} {ys : List Nat} (hR : roughR W H n xs BY s = ⟨true, (a1 : Int), (b1 : Int), N, F⟩)
    (hO : ORow w.heap.size w5.heap.size w5 (some ⟨g, 0, none⟩) N ys) (hg : g ≠ b) (hF : ∀ i, i < N → cn .f32 (ys.getD i 0) = F i) (hb : Bel w w5) (hbl : w.heap.size ≤ b) (u0 u1 u2 : Value) :
    RoRet (roughR W H n xs BY s) (roughZ W H n xs BY s) w (.returned (.tuple #[hillV a1 b1 (some ⟨g, 0, none⟩) N cap, .int .i64 (seedN s N), .bool true])) (((w5.setCell ⟨b, 0, none⟩ u0).setCell ⟨b, 1, none⟩ u1).setCell ⟨b, 2, none⟩ u2) := by
  unfold roughZ
  rw [hR]
  refine ⟨_, cap, ys, rfl, ?_, hF, (((hb.setCell hbl _).setCell hbl _).setCell hbl _)⟩
  refine (((hO.setOther ?_ _).setOther ?_ _).setOther ?_ _).mono (Nat.le_refl _) (by simp [World.setCell])
  all_goals (intro q hq; cases hq; exact hg)
theorem roret_no {W H : Int} {n : Nat} {xs : List Nat} {BY : Nat} {s : Int} {w w' : World} {F : Nat → Nat} (hR : roughR W H n xs BY s = ⟨false, 0, 0, 0, F⟩) (hb : Bel w w') : RoRet (roughR W H n xs BY s) (roughZ W H n xs BY s) w (.returned (.tuple #[hillV 0 0 none 0 0, .int .i64 0, .bool false])) w' := by
  unfold roughZ
  rw [hR]
  exact ⟨none, 0, [], rfl, ORow.nil _ _ _, fun i hi => absurd hi (Nat.not_lt_zero _), hb⟩

set_option maxRecDepth 100000 in
set_option maxHeartbeats 4000000 in
theorem sRoughHill_any (w : World) (W H : Int) (ao : Option Addr) (n c : Nat) (xs : List Nat) (by' BY : Nat) (s : Int) (hby : Is .f32 by' BY) (hA : FRow w ao n xs) (hm : n ≤ 1048576) :
    Calls Try.prog 37 #[hillV W H ao n c, .float .f32 by', .int .i64 s] w (RoRet (roughR W H n xs BY s) (roughZ W H n xs BY s) w) := by
  have hA' := Lib.hid hA
  clear hA
  cases hv : validB W H n xs with
  | false =>
    have hR := Lib.hid (show roughR W H n xs BY s = noR by unfold roughR; rw [hv]; rfl)
    have hv' := Lib.hid hv
    clear hv
    go_enter Try.func37, Try.ntmps37
    go_wp2_with fail
    refine (l02Is_any _ _ W H _ _ _ xs ((hbox_new w W H (.slice ao n c) 27).alloc _) (by exact (hA'.out.alloc _).alloc _) hm).mono ?_
    rintro e w1 ⟨rfl, hB⟩
    rw [hv'.out]
    obtain ⟨y0, y1, y2, f0, f1, f2⟩ := rbox_facts ((rbox_at (w.alloc _) (w.heap.size + 1) (by simp)).bel hB)
    have hB' := Lib.hid hB
    clear hB
    go_wp2_with fail
    refine bodyPost_ret (v := .tuple #[hillV 0 0 none 0 0, .int .i64 0, .bool false]) (by simp [results, Try.results37, go_sem, y0, y1, y2]) rfl (roret_no hR.out ?_)
    exact ((((((Bel.refl w).alloc _).alloc _).trans hB'.out).setCell (by simp) _).setCell (by simp) _).setCell (by simp) _
  | true =>
    obtain ⟨a, b, rfl, rfl, ha1, ha2, hb1, hb2, rfl, hf⟩ := valid_nat hv
    have hv' := Lib.hid hv
    have hpos : 0 < b * a := Nat.mul_pos (by omega) (by omega)
    have h256 : b * a ≤ 256 := Nat.mul_le_mul hb2 ha2
    obtain ⟨bo, off, rfl, _⟩ := hA'.out.at0 hpos
    have hR0 := Lib.hid (show roughR a b (b * a) xs BY s = if fin32B BY && inB s 0 2147483647 then madeR a b (roughF xs BY s) else noR by unfold roughR; rw [hv]; simp)
    clear hv hf
    go_enter Try.func37, Try.ntmps37
    go_wp2_with fail
    refine (l02Is_any _ _ a b _ _ _ xs ((hbox_new w a b (.slice (some ⟨bo, off, none⟩) (b * a) c) 27).alloc _) (by exact (hA'.out.alloc _).alloc _) hm).mono ?_
    rintro e w1 ⟨rfl, hB⟩
    rw [hv'.out]
    have hX := Lib.hid (HBox.bel ((hbox_new w a b (.slice (some ⟨bo, off, none⟩) (b * a) c) 27).alloc _) hB)
    have hY := Lib.hid ((rbox_at (w.alloc _) (w.heap.size + 1) (by simp)).bel hB)
    have hA1 := Lib.hid (((hA'.out.alloc _).alloc _).bel hB)
    have hB' := Lib.hid ((((Bel.refl w).alloc _).alloc _).trans hB)
    clear hB
    go_wp2_with fail
    refine (l01Finite_any by' BY hby _).mono ?_
    rintro e w2 ⟨rfl, hD⟩
    have hB2 := dr_bel hD
    replace hX := Lib.hid (hX.out.bel hB2)
    replace hY := Lib.hid (hY.out.bel hB2)
    replace hA1 := Lib.hid (hA1.out.bel hB2)
    replace hB' := Lib.hid (hB'.out.trans hB2)
    clear hB2 hD
    cases hfy : fin32B BY with
    | false =>
      have hR := Lib.hid (show roughR a b (b * a) xs BY s = noR by rw [hR0.out, hfy]; rfl)
      obtain ⟨y0, y1, y2, f0, f1, f2⟩ := rbox_facts hY.out
      clear hfy
      go_wp2_with fail
      refine bodyPost_ret (v := .tuple #[hillV 0 0 none 0 0, .int .i64 0, .bool false]) (by simp [results, Try.results37, go_sem, y0, y1, y2]) rfl (roret_no hR.out ?_)
      exact ((hB'.out.setCell (by simp) _).setCell (by simp) _).setCell (by simp) _
    | true =>
      cases hsd : inB s 0 2147483647 with
      | false =>
        have hR := Lib.hid (show roughR a b (b * a) xs BY s = noR by rw [hR0.out, hfy, hsd]; rfl)
        replace hsd := Lib.hid hsd
        obtain ⟨y0, y1, y2, f0, f1, f2⟩ := rbox_facts hY.out
        clear hfy
        go_wp2_with (go_at_call 76; refine (l00In_any _ _ _ _).mono ?_; rintro e w' ⟨rfl, rfl⟩; rw [hsd.out])
        refine bodyPost_ret (v := .tuple #[hillV 0 0 none 0 0, .int .i64 0, .bool false]) (by simp [results, Try.results37, go_sem, y0, y1, y2]) rfl (roret_no hR.out ?_)
        exact ((hB'.out.setCell (by simp) _).setCell (by simp) _).setCell (by simp) _
      | true =>
      have hsin := Lib.hid (inB_iff.1 hsd)
      have hR := Lib.hid (show roughR a b (b * a) xs BY s = madeR a b (roughF xs BY s) by rw [hR0.out, hfy, hsd]; rfl)
      replace hsd := Lib.hid hsd
      clear hfy
      go_wp2_with (go_at_call 76; refine (l00In_any _ _ _ _).mono ?_; rintro e w' ⟨rfl, rfl⟩; rw [hsd.out])
      refine (l02Own_any w2 w.heap.size a b bo off (b * a) c xs hX.out hA1.out hpos hm).mono ?_
      rintro e w3 ⟨g, cap, rfl, hO, hB3⟩
      replace hB' := Lib.hid (hB'.out.trans hB3)
      have hsz2 := hY.out.1
      replace hY := Lib.hid (hY.out.bel hB3)
      have hO' := Lib.hid (hO.mono (show w.heap.size + 2 ≤ w2.heap.size from hsz2) (Nat.le_refl _))
      clear hO hB3
      obtain ⟨hg1, hg2, _, _⟩ := hO'.out.own _ rfl
      have hg1' := Lib.hid hg1
      have hg2' := Lib.hid hg2
      clear hg1 hg2
      go_wp2
      go_loopw [2, 10] (fun z t wr => ∃ i : Nat, i ≤ b * a ∧ t = .int .i64 i ∧ z = .int .i64 (seedN s i) ∧ Hid (SRel (w3.alloc (.cells #[.int .i64 a, .int .i64 b, .slice (some ⟨g, 0, none⟩) (b * a) cap] 27)) (w.heap.size + 2) w3.heap.size g (roughF xs BY s) xs (b * a) i wr)) (fun _ t _ => b * a - (intOf t).toNat)
      case atStart => exact ⟨0, Nat.zero_le _, rfl, rfl, Lib.hid ⟨xs, SSt.start (hO'.out.alloc _)⟩⟩
      case round =>
        obtain ⟨i, hi, rfl, rfl, hM⟩ := hrel
        obtain ⟨ys, hS⟩ := hM.out
        have hX1 := Lib.hid (hbox_belx (hbox_new w3 a b (.slice (some ⟨g, 0, none⟩) (b * a) cap) 27) hS.bel (by have := hg2'.out; simp at this ⊢; omega))
        obtain ⟨_, c0, c1, c2⟩ := hX1.out
        by_cases hlt : i < b * a
        · have hi1 : (i : Int) < (b : Int) * (a : Int) := by rw [← Int.natCast_mul]; omega
          have hS' := Lib.hid hS
          have hiv : ys.getD i 0 = xs.getD i 0 := hS.left i (Nat.le_refl _) hlt
          obtain ⟨X, hXd⟩ : ∃ X, X = ys.getD i 0 := ⟨_, rfl⟩
          have hrX : Is .f32 X (cn .f32 (xs.getD i 0)) := by rw [← hiv, hXd]; exact hS.row.row.is hlt
          have hz1 := seedN_in hsin.out i
          have hz2 := seedN_in hsin.out (i + 1)
          have hz3 : seedN s (i + 1) = (1103515245 * seedN s i + 12345) % 2147483648 := rfl
          obtain ⟨hz1a, hz1b⟩ := hz1
          obtain ⟨hz2a, hz2b⟩ := hz2
          obtain ⟨Z, hZd⟩ : ∃ Z, Z = seedN s i := ⟨_, rfl⟩
          obtain ⟨Z2, hZ2d⟩ : ∃ Z, Z = seedN s (i + 1) := ⟨_, rfl⟩
          have eg : fop .add .f32 (cn .f32 (xs.getD i 0)) (fop .mul .f32 BY (fop .quo .f32 (floatOfInt .f32 (Z2 / 65536 - 16384)) 1182793728)) = roughF xs BY s i := by rw [hZ2d]; rfl
          rw [← hZ2d, ← hZd] at hz3
          rw [← hZd] at hz1a hz1b ⊢
          rw [← hZ2d] at hz2a hz2b
          replace hz3 := hz3.symm
          have hZ2d' := Lib.hid hZ2d
          obtain ⟨Y, hYd⟩ : ∃ Y, Y = cn .f32 (xs.getD i 0) := ⟨_, rfl⟩
          rw [← hYd] at hrX eg
          have hXd' := Lib.hid hXd
          have eg' := Lib.hid eg
          clear hS hM hiv hYd hXd eg hZd hZ2d
          go_wp2_with ((with_reducible refine wpList_here ?_); (first | ((with_reducible refine wpList_feq (k := ?_) (bx := ?_) (by' := ?_) (X := ?_) (Y := ?_) ?_ ?_ ?_ ?_ ?_ ?_); rotate_left 5; (first | (with_reducible exact wanted_none) | ((with_reducible refine wanted_some ?_); rfl)); (rfl); (rfl); (first | assumption | ((refine Is.lit ?_); decide +kernel) | (refine Is.ofInt _ _)); (first | assumption | ((refine Is.lit ?_); decide +kernel) | (refine Is.ofInt _ _)); (try simp only [Act.put, List.setIfInBounds_toArray, List.set_cons_succ, List.set_cons_zero, World.drewN_drewN])) | ((with_reducible refine wpList_fne (k := ?_) (bx := ?_) (by' := ?_) (X := ?_) (Y := ?_) ?_ ?_ ?_ ?_ ?_ ?_); rotate_left 5; (first | (with_reducible exact wanted_none) | ((with_reducible refine wanted_some ?_); rfl)); (rfl); (rfl); (first | assumption | ((refine Is.lit ?_); decide +kernel) | (refine Is.ofInt _ _)); (first | assumption | ((refine Is.lit ?_); decide +kernel) | (refine Is.ofInt _ _)); (try simp only [Act.put, List.setIfInBounds_toArray, List.set_cons_succ, List.set_cons_zero, World.drewN_drewN])) | ((with_reducible refine wpList_flt (k := ?_) (bx := ?_) (by' := ?_) (X := ?_) (Y := ?_) ?_ ?_ ?_ ?_ ?_ ?_); rotate_left 5; (first | (with_reducible exact wanted_none) | ((with_reducible refine wanted_some ?_); rfl)); (rfl); (rfl); (first | assumption | ((refine Is.lit ?_); decide +kernel) | (refine Is.ofInt _ _)); (first | assumption | ((refine Is.lit ?_); decide +kernel) | (refine Is.ofInt _ _)); (try simp only [Act.put, List.setIfInBounds_toArray, List.set_cons_succ, List.set_cons_zero, World.drewN_drewN])) | ((with_reducible refine wpList_fle (k := ?_) (bx := ?_) (by' := ?_) (X := ?_) (Y := ?_) ?_ ?_ ?_ ?_ ?_ ?_); rotate_left 5; (first | (with_reducible exact wanted_none) | ((with_reducible refine wanted_some ?_); rfl)); (rfl); (rfl); (first | assumption | ((refine Is.lit ?_); decide +kernel) | (refine Is.ofInt _ _)); (first | assumption | ((refine Is.lit ?_); decide +kernel) | (refine Is.ofInt _ _)); (try simp only [Act.put, List.setIfInBounds_toArray, List.set_cons_succ, List.set_cons_zero, World.drewN_drewN])) | ((with_reducible refine wpList_fgt (k := ?_) (bx := ?_) (by' := ?_) (X := ?_) (Y := ?_) ?_ ?_ ?_ ?_ ?_ ?_); rotate_left 5; (first | (with_reducible exact wanted_none) | ((with_reducible refine wanted_some ?_); rfl)); (rfl); (rfl); (first | assumption | ((refine Is.lit ?_); decide +kernel) | (refine Is.ofInt _ _)); (first | assumption | ((refine Is.lit ?_); decide +kernel) | (refine Is.ofInt _ _)); (try simp only [Act.put, List.setIfInBounds_toArray, List.set_cons_succ, List.set_cons_zero, World.drewN_drewN])) | ((with_reducible refine wpList_fge (k := ?_) (bx := ?_) (by' := ?_) (X := ?_) (Y := ?_) ?_ ?_ ?_ ?_ ?_ ?_); rotate_left 5; (first | (with_reducible exact wanted_none) | ((with_reducible refine wanted_some ?_); rfl)); (rfl); (rfl); (first | assumption | ((refine Is.lit ?_); decide +kernel) | (refine Is.ofInt _ _)); (first | assumption | ((refine Is.lit ?_); decide +kernel) | (refine Is.ofInt _ _)); (try simp only [Act.put, List.setIfInBounds_toArray, List.set_cons_succ, List.set_cons_zero, World.drewN_drewN])) | ((with_reducible refine wpList_fadd (k := ?_) (bx := ?_) (by' := ?_) (X := ?_) (Y := ?_) ?_ ?_ ?_ ?_ ?_ ?_); rotate_left 5; (first | (with_reducible exact wanted_none) | ((with_reducible refine wanted_some ?_); rfl)); (rfl); (rfl); (first | assumption | ((refine Is.lit ?_); decide +kernel) | (refine Is.ofInt _ _)); (first | assumption | ((refine Is.lit ?_); decide +kernel) | (refine Is.ofInt _ _)); (intro r nd hr); (try simp only [Act.put, List.setIfInBounds_toArray, List.set_cons_succ, List.set_cons_zero, World.drewN_drewN])) | ((with_reducible refine wpList_fsub (k := ?_) (bx := ?_) (by' := ?_) (X := ?_) (Y := ?_) ?_ ?_ ?_ ?_ ?_ ?_); rotate_left 5; (first | (with_reducible exact wanted_none) | ((with_reducible refine wanted_some ?_); rfl)); (rfl); (rfl); (first | assumption | ((refine Is.lit ?_); decide +kernel) | (refine Is.ofInt _ _)); (first | assumption | ((refine Is.lit ?_); decide +kernel) | (refine Is.ofInt _ _)); (intro r nd hr); (try simp only [Act.put, List.setIfInBounds_toArray, List.set_cons_succ, List.set_cons_zero, World.drewN_drewN])) | ((with_reducible refine wpList_fmul (k := ?_) (bx := ?_) (by' := ?_) (X := ?_) (Y := ?_) ?_ ?_ ?_ ?_ ?_ ?_); rotate_left 5; (first | (with_reducible exact wanted_none) | ((with_reducible refine wanted_some ?_); rfl)); (rfl); (rfl); (first | assumption | ((refine Is.lit ?_); decide +kernel) | (refine Is.ofInt _ _)); (first | assumption | ((refine Is.lit ?_); decide +kernel) | (refine Is.ofInt _ _)); (intro r nd hr); (try simp only [Act.put, List.setIfInBounds_toArray, List.set_cons_succ, List.set_cons_zero, World.drewN_drewN])) | ((with_reducible refine wpList_fquo (k := ?_) (bx := ?_) (by' := ?_) (X := ?_) (Y := ?_) ?_ ?_ ?_ ?_ ?_ ?_); rotate_left 5; (first | (with_reducible exact wanted_none) | ((with_reducible refine wanted_some ?_); rfl)); (rfl); (rfl); (first | assumption | ((refine Is.lit ?_); decide +kernel) | (refine Is.ofInt _ _)); (first | assumption | ((refine Is.lit ?_); decide +kernel) | (refine Is.ofInt _ _)); (intro r nd hr); (try simp only [Act.put, List.setIfInBounds_toArray, List.set_cons_succ, List.set_cons_zero, World.drewN_drewN]))))
          have hrd := hr
          (refine Rk.region_K (Le := Bel) [0, 1, 2, 3, 4, 5, 6, 7, 8, 9, 10, 11, 12] [13] Rk.good_bel (by kernel_rfl) (by kernel_rfl) (by kernel_rfl) (by kernel_rfl) ?_; (try simp only [Rk.pick, List.getElem?_cons_succ, List.getElem?_cons_zero, Option.toList_some, List.cons_append, List.nil_append, List.map_cons, List.map_nil]))
          repeat (first | ((with_reducible refine Rk.wpR_move Rk.good_bel (S := ?_) ?_ ?_ ?_ ?_); (first | exact Rk.yes_none | exact Rk.yes_some rfl rfl); rotate_left 2; (simp only [Rk.slotS, List.getD_cons_succ, List.getD_cons_zero]; rfl); rotate_left 1; (first | exact Rk.mon_is1 _ | exact Rk.mon_isF _ _ | assumption); (try simp only [Rk.upd, List.set_cons_succ, List.set_cons_zero])) | ((with_reducible refine Rk.wpR_assign Rk.good_bel (S := ?_) ?_ ?_ ?_ ?_); (first | exact Rk.yes_none | exact Rk.yes_some rfl rfl); rotate_left 2; (simp only [Rk.slotS, List.getD_cons_succ, List.getD_cons_zero]; rfl); rotate_left 1; (first | exact Rk.mon_is1 _ | exact Rk.mon_isF _ _ | assumption); (try simp only [Rk.upd, List.set_cons_succ, List.set_cons_zero])) | ((with_reducible refine Rk.wpR_skip (d := ?_) (c := ?_) ?_ ?_ ?_ ?_); rotate_left 2; rfl; rfl; rfl; (try simp only [Rk.upd, List.set_cons_succ, List.set_cons_zero])) | ((with_reducible refine Rk.wpR_pickT Rk.good_bel (S := ?_) ?_ ?_ ?_ ?_ ?_); (first | exact Rk.yes_none | exact Rk.yes_some rfl rfl); rotate_left 2; rfl; (simp only [Rk.slotS, List.getD_cons_succ, List.getD_cons_zero]; rfl); rotate_left 1; (first | exact Rk.mon_is1 _ | exact Rk.mon_isF _ _ | assumption); (try simp only [Rk.upd, List.set_cons_succ, List.set_cons_zero])) | ((with_reducible refine Rk.wpR_pickF Rk.good_bel (S := ?_) ?_ ?_ ?_ ?_ ?_); (first | exact Rk.yes_none | exact Rk.yes_some rfl rfl); rotate_left 2; rfl; (simp only [Rk.slotS, List.getD_cons_succ, List.getD_cons_zero]; rfl); rotate_left 1; (first | exact Rk.mon_is1 _ | exact Rk.mon_isF _ _ | assumption); (try simp only [Rk.upd, List.set_cons_succ, List.set_cons_zero])) | ((with_reducible refine Rk.wpR_widen Rk.good_bel Try.underlying32 Try.underlying56 (X := ?_) (S := ?_) ?_ ?_ ?_ ?_); rotate_left 2; (first | exact Rk.yes_none | exact Rk.yes_some rfl rfl); (simp only [Rk.slotS, List.getD_cons_succ, List.getD_cons_zero]; rfl); (first | exact Rk.subF_is _ _ | (refine Rk.subF_eq ?_; (first | assumption | ((refine Is.lit ?_); decide +kernel) | (refine Is.ofInt _ _)))); (try simp only [Rk.upd, List.set_cons_succ, List.set_cons_zero])) | ((with_reducible refine Rk.wpR_fadd Rk.good_bel (k := ?_) (X := ?_) (Y := ?_) (S := ?_) (T := ?_) ?_ ?_ ?_ ?_ ?_ ?_); rotate_left 5; (first | exact Rk.yes_none | exact Rk.yes_some rfl rfl); (simp only [Rk.slotS, List.getD_cons_succ, List.getD_cons_zero]; rfl); (simp only [Rk.slotS, List.getD_cons_succ, List.getD_cons_zero]; rfl); (first | exact Rk.subF_is _ _ | (refine Rk.subF_eq ?_; (first | assumption | ((refine Is.lit ?_); decide +kernel) | (refine Is.ofInt _ _)))); (first | exact Rk.subF_is _ _ | (refine Rk.subF_eq ?_; (first | assumption | ((refine Is.lit ?_); decide +kernel) | (refine Is.ofInt _ _)))); (try simp only [Rk.upd, List.set_cons_succ, List.set_cons_zero])) | ((with_reducible refine Rk.wpR_fsub Rk.good_bel (k := ?_) (X := ?_) (Y := ?_) (S := ?_) (T := ?_) ?_ ?_ ?_ ?_ ?_ ?_); rotate_left 5; (first | exact Rk.yes_none | exact Rk.yes_some rfl rfl); (simp only [Rk.slotS, List.getD_cons_succ, List.getD_cons_zero]; rfl); (simp only [Rk.slotS, List.getD_cons_succ, List.getD_cons_zero]; rfl); (first | exact Rk.subF_is _ _ | (refine Rk.subF_eq ?_; (first | assumption | ((refine Is.lit ?_); decide +kernel) | (refine Is.ofInt _ _)))); (first | exact Rk.subF_is _ _ | (refine Rk.subF_eq ?_; (first | assumption | ((refine Is.lit ?_); decide +kernel) | (refine Is.ofInt _ _)))); (try simp only [Rk.upd, List.set_cons_succ, List.set_cons_zero])) | ((with_reducible refine Rk.wpR_fmul Rk.good_bel (k := ?_) (X := ?_) (Y := ?_) (S := ?_) (T := ?_) ?_ ?_ ?_ ?_ ?_ ?_); rotate_left 5; (first | exact Rk.yes_none | exact Rk.yes_some rfl rfl); (simp only [Rk.slotS, List.getD_cons_succ, List.getD_cons_zero]; rfl); (simp only [Rk.slotS, List.getD_cons_succ, List.getD_cons_zero]; rfl); (first | exact Rk.subF_is _ _ | (refine Rk.subF_eq ?_; (first | assumption | ((refine Is.lit ?_); decide +kernel) | (refine Is.ofInt _ _)))); (first | exact Rk.subF_is _ _ | (refine Rk.subF_eq ?_; (first | assumption | ((refine Is.lit ?_); decide +kernel) | (refine Is.ofInt _ _)))); (try simp only [Rk.upd, List.set_cons_succ, List.set_cons_zero])) | ((with_reducible refine Rk.wpR_fquo Rk.good_bel (k := ?_) (X := ?_) (Y := ?_) (S := ?_) (T := ?_) ?_ ?_ ?_ ?_ ?_ ?_); rotate_left 5; (first | exact Rk.yes_none | exact Rk.yes_some rfl rfl); (simp only [Rk.slotS, List.getD_cons_succ, List.getD_cons_zero]; rfl); (simp only [Rk.slotS, List.getD_cons_succ, List.getD_cons_zero]; rfl); (first | exact Rk.subF_is _ _ | (refine Rk.subF_eq ?_; (first | assumption | ((refine Is.lit ?_); decide +kernel) | (refine Is.ofInt _ _)))); (first | exact Rk.subF_is _ _ | (refine Rk.subF_eq ?_; (first | assumption | ((refine Is.lit ?_); decide +kernel) | (refine Is.ofInt _ _)))); (try simp only [Rk.upd, List.set_cons_succ, List.set_cons_zero])) | ((with_reducible refine Rk.wpR_feq Rk.good_bel (k := ?_) (X := ?_) (Y := ?_) (S := ?_) (T := ?_) ?_ ?_ ?_ ?_ ?_ ?_); rotate_left 5; (first | exact Rk.yes_none | exact Rk.yes_some rfl rfl); (simp only [Rk.slotS, List.getD_cons_succ, List.getD_cons_zero]; rfl); (simp only [Rk.slotS, List.getD_cons_succ, List.getD_cons_zero]; rfl); (first | exact Rk.subF_is _ _ | (refine Rk.subF_eq ?_; (first | assumption | ((refine Is.lit ?_); decide +kernel) | (refine Is.ofInt _ _)))); (first | exact Rk.subF_is _ _ | (refine Rk.subF_eq ?_; (first | assumption | ((refine Is.lit ?_); decide +kernel) | (refine Is.ofInt _ _)))); (try simp only [Rk.upd, List.set_cons_succ, List.set_cons_zero])) | ((with_reducible refine Rk.wpR_fne Rk.good_bel (k := ?_) (X := ?_) (Y := ?_) (S := ?_) (T := ?_) ?_ ?_ ?_ ?_ ?_ ?_); rotate_left 5; (first | exact Rk.yes_none | exact Rk.yes_some rfl rfl); (simp only [Rk.slotS, List.getD_cons_succ, List.getD_cons_zero]; rfl); (simp only [Rk.slotS, List.getD_cons_succ, List.getD_cons_zero]; rfl); (first | exact Rk.subF_is _ _ | (refine Rk.subF_eq ?_; (first | assumption | ((refine Is.lit ?_); decide +kernel) | (refine Is.ofInt _ _)))); (first | exact Rk.subF_is _ _ | (refine Rk.subF_eq ?_; (first | assumption | ((refine Is.lit ?_); decide +kernel) | (refine Is.ofInt _ _)))); (try simp only [Rk.upd, List.set_cons_succ, List.set_cons_zero])) | ((with_reducible refine Rk.wpR_flt Rk.good_bel (k := ?_) (X := ?_) (Y := ?_) (S := ?_) (T := ?_) ?_ ?_ ?_ ?_ ?_ ?_); rotate_left 5; (first | exact Rk.yes_none | exact Rk.yes_some rfl rfl); (simp only [Rk.slotS, List.getD_cons_succ, List.getD_cons_zero]; rfl); (simp only [Rk.slotS, List.getD_cons_succ, List.getD_cons_zero]; rfl); (first | exact Rk.subF_is _ _ | (refine Rk.subF_eq ?_; (first | assumption | ((refine Is.lit ?_); decide +kernel) | (refine Is.ofInt _ _)))); (first | exact Rk.subF_is _ _ | (refine Rk.subF_eq ?_; (first | assumption | ((refine Is.lit ?_); decide +kernel) | (refine Is.ofInt _ _)))); (try simp only [Rk.upd, List.set_cons_succ, List.set_cons_zero])) | ((with_reducible refine Rk.wpR_fgt Rk.good_bel (k := ?_) (X := ?_) (Y := ?_) (S := ?_) (T := ?_) ?_ ?_ ?_ ?_ ?_ ?_); rotate_left 5; (first | exact Rk.yes_none | exact Rk.yes_some rfl rfl); (simp only [Rk.slotS, List.getD_cons_succ, List.getD_cons_zero]; rfl); (simp only [Rk.slotS, List.getD_cons_succ, List.getD_cons_zero]; rfl); (first | exact Rk.subF_is _ _ | (refine Rk.subF_eq ?_; (first | assumption | ((refine Is.lit ?_); decide +kernel) | (refine Is.ofInt _ _)))); (first | exact Rk.subF_is _ _ | (refine Rk.subF_eq ?_; (first | assumption | ((refine Is.lit ?_); decide +kernel) | (refine Is.ofInt _ _)))); (try simp only [Rk.upd, List.set_cons_succ, List.set_cons_zero])) | ((with_reducible refine Rk.wpR_fge Rk.good_bel (k := ?_) (X := ?_) (Y := ?_) (S := ?_) (T := ?_) ?_ ?_ ?_ ?_ ?_ ?_); rotate_left 5; (first | exact Rk.yes_none | exact Rk.yes_some rfl rfl); (simp only [Rk.slotS, List.getD_cons_succ, List.getD_cons_zero]; rfl); (simp only [Rk.slotS, List.getD_cons_succ, List.getD_cons_zero]; rfl); (first | exact Rk.subF_is _ _ | (refine Rk.subF_eq ?_; (first | assumption | ((refine Is.lit ?_); decide +kernel) | (refine Is.ofInt _ _)))); (first | exact Rk.subF_is _ _ | (refine Rk.subF_eq ?_; (first | assumption | ((refine Is.lit ?_); decide +kernel) | (refine Is.ofInt _ _)))); (try simp only [Rk.upd, List.set_cons_succ, List.set_cons_zero])) | ((with_reducible refine Rk.wpR_fle Rk.good_bel (k := ?_) (X := ?_) (Y := ?_) (S := ?_) (T := ?_) ?_ ?_ ?_ ?_ ?_ ?_); rotate_left 5; (first | exact Rk.yes_none | exact Rk.yes_some rfl rfl); (simp only [Rk.slotS, List.getD_cons_succ, List.getD_cons_zero]; rfl); (simp only [Rk.slotS, List.getD_cons_succ, List.getD_cons_zero]; rfl); (first | exact Rk.subF_is _ _ | (refine Rk.subF_eq ?_; (first | assumption | ((refine Is.lit ?_); decide +kernel) | (refine Is.ofInt _ _)))); (first | exact Rk.subF_is _ _ | (refine Rk.subF_eq ?_; (first | assumption | ((refine Is.lit ?_); decide +kernel) | (refine Is.ofInt _ _)))); (try simp only [Rk.upd, List.set_cons_succ, List.set_cons_zero])) | ((with_reducible refine Rk.wpR_indexAddr Rk.good_bel (v := ?_) (v' := ?_) (u := ?_) ?_ ?_ ?_ ?_ ?_); rotate_left 3; (first | exact Rk.yes_none | exact Rk.yes_some rfl rfl); (simp only [Rk.slotS, List.getD_cons_succ, List.getD_cons_zero]; rfl); (simp only [Rk.slotS, List.getD_cons_succ, List.getD_cons_zero]; rfl); (intro ρ w' hw hK1 hK2; go_simp; rfl); (try simp only [Rk.upd, List.set_cons_succ, List.set_cons_zero])) | ((with_reducible refine Rk.wpR_binOp Rk.good_bel (v := ?_) (v' := ?_) (u := ?_) ?_ ?_ ?_ ?_ ?_); rotate_left 3; (first | exact Rk.yes_none | exact Rk.yes_some rfl rfl); (simp only [Rk.slotS, List.getD_cons_succ, List.getD_cons_zero]; rfl); (simp only [Rk.slotS, List.getD_cons_succ, List.getD_cons_zero]; rfl); (intro ρ w' hw hK1 hK2; go_simp; rfl); (try simp only [Rk.upd, List.set_cons_succ, List.set_cons_zero])) | ((with_reducible refine Rk.wpR_load Rk.good_bel (v := ?_) (u := ?_) ?_ ?_ ?_ ?_); rotate_left 2; (first | exact Rk.yes_none | exact Rk.yes_some rfl rfl); (simp only [Rk.slotS, List.getD_cons_succ, List.getD_cons_zero]; rfl); (intro ρ w' hw hK1; obtain ⟨_, k0, k1, k2⟩ := HBox.bel hX1.out (bel_drew hw); have kk := frow_cell hS'.out.row.row (bel_drew hw) hlt; rw [← hXd'.out, Nat.zero_add] at kk; go_simp; rfl); (try simp only [Rk.upd, List.set_cons_succ, List.set_cons_zero])) | ((with_reducible refine Rk.wpR_unOp Rk.good_bel (v := ?_) (u := ?_) ?_ ?_ ?_ ?_); rotate_left 2; (first | exact Rk.yes_none | exact Rk.yes_some rfl rfl); (simp only [Rk.slotS, List.getD_cons_succ, List.getD_cons_zero]; rfl); (intro ρ w' hw hK1; go_simp; rfl); (try simp only [Rk.upd, List.set_cons_succ, List.set_cons_zero])) | ((with_reducible refine Rk.wpR_convert Rk.good_bel (v := ?_) (u := ?_) ?_ ?_ ?_ ?_); rotate_left 2; (first | exact Rk.yes_none | exact Rk.yes_some rfl rfl); (simp only [Rk.slotS, List.getD_cons_succ, List.getD_cons_zero]; rfl); (intro ρ w' hw hK1; go_simp; rfl); (try simp only [Rk.upd, List.set_cons_succ, List.set_cons_zero])) | ((with_reducible refine Rk.wpR_field Rk.good_bel (v := ?_) (u := ?_) ?_ ?_ ?_ ?_); rotate_left 2; (first | exact Rk.yes_none | exact Rk.yes_some rfl rfl); (simp only [Rk.slotS, List.getD_cons_succ, List.getD_cons_zero]; rfl); (intro ρ w' hw hK1; go_simp; rfl); (try simp only [Rk.upd, List.set_cons_succ, List.set_cons_zero])) | ((with_reducible refine Rk.wpR_fieldAddr Rk.good_bel (v := ?_) (u := ?_) ?_ ?_ ?_ ?_); rotate_left 2; (first | exact Rk.yes_none | exact Rk.yes_some rfl rfl); (simp only [Rk.slotS, List.getD_cons_succ, List.getD_cons_zero]; rfl); (intro ρ w' hw hK1; go_simp; rfl); (try simp only [Rk.upd, List.set_cons_succ, List.set_cons_zero])) | ((with_reducible refine Rk.wpR_nilCheck Rk.good_bel (v := ?_) (u := ?_) ?_ ?_ ?_ ?_); rotate_left 2; (first | exact Rk.yes_none | exact Rk.yes_some rfl rfl); (simp only [Rk.slotS, List.getD_cons_succ, List.getD_cons_zero]; rfl); (intro ρ w' hw hK1; go_simp; rfl); (try simp only [Rk.upd, List.set_cons_succ, List.set_cons_zero])) | ((with_reducible refine Rk.wpR_builtin1 Rk.good_bel (v := ?_) (u := ?_) ?_ ?_ ?_ ?_); rotate_left 2; (first | exact Rk.yes_none | exact Rk.yes_some rfl rfl); (simp only [Rk.slotS, List.getD_cons_succ, List.getD_cons_zero]; rfl); (intro ρ w' hw hK1; go_simp; rfl); (try simp only [Rk.upd, List.set_cons_succ, List.set_cons_zero])) | ((with_reducible refine Rk.wpR_extract Rk.good_bel (v := ?_) (u := ?_) ?_ ?_ ?_ ?_); rotate_left 2; (first | exact Rk.yes_none | exact Rk.yes_some rfl rfl); (simp only [Rk.slotS, List.getD_cons_succ, List.getD_cons_zero]; rfl); (intro ρ w' hw hK1; go_simp; rfl); (try simp only [Rk.upd, List.set_cons_succ, List.set_cons_zero])))
          refine Rk.wpR_end ?_
          intro wK hwK
          repeat (first | refine Rk.all2_is1 ?_ | (refine Rk.all2_isF ?_; intro r0 hr0))
          refine Rk.all2_nil ?_
          replace hwK := bel_drew hwK
          have hrow := hS'.out.row.bel hwK
          have kc := frow_cell hrow.row (Bel.refl _) hlt
          have kf := (hrow.own _ rfl).2.2.2
          rw [Nat.zero_add] at kc
          have ks := run_store_float (P := Try.prog) kc (kf i)
          have hN := Lib.hid (hS'.out.next hlt hwK (by rw [← eg'.out]; exact hr0))
          clear hrow hwK kf kc
          go_wp2
          refine ⟨⟨i + 1, by omega, by simp, by rw [hz3, hZ2d'.out], Lib.hid ⟨_, by have := hN.out; rw [Nat.zero_add] at this; exact this⟩⟩, ?_⟩
          show b * a - (((i : Nat) : Int) + 1).toNat < b * a - ((i : Nat) : Int).toNat
          omega
        · obtain rfl : i = b * a := by omega
          have hle : ¬ (((b * a : Nat) : Int) < (b : Int) * (a : Int)) := by rw [Int.natCast_mul]; omega
          have hds : ∀ j, j < b * a → cn .f32 (ys.getD j 0) = roughF xs BY s j := fun j hj => (hS.done j hj).2
          have hv1 := valid_made (F := roughF xs BY s) ha1 ha2 hb1 hb2 hds
          have hv1' := Lib.hid hv1
          have hY2 := Lib.hid (rbox_belx (hY.out.bel ((Bel.refl _).alloc _)) hS.bel (by have := hg1'.out; simp; omega))
          have hrow := Lib.hid hS.row
          have hBB := Lib.hid (belx_bel (hB'.out.alloc _) hS.bel (by have := hg1'.out; omega))
          have hds' := Lib.hid hds
          have hszr := hS.bel.size
          simp at hszr
          clear hS hM hv1 hds
          go_wp2_with fail
          refine (l02Is_any _ _ a b _ _ _ ys hX1.out hrow.out.row hm).mono ?_
          rintro e w5 ⟨rfl, hB5⟩
          rw [hv1'.out]
          obtain ⟨y0, y1, y2, f0, f1, f2⟩ := rbox_facts (hY2.out.bel hB5)
          have hX5 := Lib.hid (hX1.out.bel hB5)
          have hrow5 := Lib.hid (hrow.out.bel hB5)
          have hB5' := Lib.hid hB5
          have hsz5 := Lib.hid (show w3.heap.size ≤ w5.heap.size from by have := hB5.size; omega)
          clear hB5 c0 c1 c2
          cases hal : allB (fun i => fin32B (roughF xs BY s i)) (b * a) with
          | true =>
            have hR2 := Lib.hid (hR.out.trans (madeR_t hal))
            obtain ⟨_, z0, z1, z2⟩ := hX5.out
            clear hal
            go_wp2_with fail
            refine bodyPost_ret (v := .tuple #[hillV a b (some ⟨g, 0, none⟩) (b * a) cap, .int .i64 (seedN s (b * a)), .bool true]) (by simp [results, Try.results37, go_sem, y0, y1, y2]) rfl ?_
            exact roret_set3 hR2.out (hrow5.out.mono (by omega) hsz5.out) (by have := hg1'.out; simp at this ⊢; omega) (fun j hj => hds'.out j hj) (hBB.out.trans hB5'.out) (by omega) _ _ _
          | false =>
            have hR2 := Lib.hid (hR.out.trans (madeR_f hal))
            clear hal
            go_wp2_with fail
            refine bodyPost_ret (v := .tuple #[hillV 0 0 none 0 0, .int .i64 0, .bool false]) (by simp [results, Try.results37, go_sem, y0, y1, y2]) rfl (roret_no hR2.out ?_)
            exact (((hBB.out.trans hB5'.out).setCell (by simp) _).setCell (by simp) _).setCell (by simp) _
end Go.Proofs.Ytobghfjkkkfecaa
