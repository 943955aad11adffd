/-
  CONTRACTS: the reference's hill scaled.
-/
import Derived.Test.YtobghfjkkkfecaaH10
set_option linter.unusedSimpArgs false
set_option linter.unusedVariables false
namespace Go.Proofs.Ytobghfjkkkfecaa
open Go.RowKit Go.Fl

def SRel (w0 : World) (lo hi g : Nat) (F : Nat → Nat) (xs : List Nat) (n i : Nat) (wr : World) : Prop := ∃ ys, SSt w0 lo hi g 0 F xs n i wr ys
theorem hbox_belx {bs : Option Nat} {w w' : World} {b : Nat} {W H : Int} {sl : Value} (h : HBox w b W H sl) (hX : BelX bs w w') (hne : some b ≠ bs) : HBox w' b W H sl :=
  ⟨Nat.lt_of_lt_of_le h.1 hX.size, (hX.cell (p := ⟨b, 0, none⟩) h.1 hne).trans h.2.1, (hX.cell (p := ⟨b, 1, none⟩) h.1 hne).trans h.2.2.1, (hX.cell (p := ⟨b, 2, none⟩) h.1 hne).trans h.2.2.2⟩
theorem rbox_belx {bs : Option Nat} {w w' : World} {b : Nat} (h : RBox w b) (hX : BelX bs w w') (hne : some b ≠ bs) : RBox w' b := ⟨Nat.lt_of_lt_of_le h.1 hX.size, by rw [hX.block b h.1 hne]; exact h.2⟩
theorem madeR_t {a b : Nat} {F : Nat → Nat} (h : allB (fun i => fin32B (F i)) (b * a) = true) : madeR a b F = ⟨true, a, b, b * a, F⟩ := by unfold madeR; rw [h]; rfl
theorem madeR_f {a b : Nat} {F : Nat → Nat} (h : allB (fun i => fin32B (F i)) (b * a) = false) : madeR a b F = ⟨false, 0, 0, 0, F⟩ := by unfold madeR; rw [h]; rfl
theorem hret_no' {R : HillR} {w w' : World} {F : Nat → Nat} (hR : R = ⟨false, 0, 0, 0, F⟩) (hb : Bel w w') : HRet R w (.returned (.tuple #[hillV 0 0 none 0 0, .bool false])) w' := by
  subst hR
  exact ⟨none, 0, [], rfl, ORow.nil _ _ _, fun i hi => absurd hi (Nat.not_lt_zero _), hb⟩

set_option maxRecDepth 100000 in
set_option maxHeartbeats 4000000 in
theorem sScaleHill_any (w : World) (W H : Int) (ao : Option Addr) (n c : Nat) (xs : List Nat) (by' BY : Nat) (hby : Is .f32 by' BY) (hA : FRow w ao n xs) (hm : n ≤ 1048576) :
    Calls Try.prog 30 #[hillV W H ao n c, .float .f32 by'] w (HRet (scaleR W H n xs BY) w) := by
  have hA' := Lib.hid hA
  clear hA
  cases hv : validB W H n xs with
  | false =>
    have hR := Lib.hid (show scaleR W H n xs BY = noR by unfold scaleR; rw [hv]; rfl)
    have hv' := Lib.hid hv
    clear hv
    go_enter Try.func30, Try.ntmps30
    go_wp2_with fail
    refine (l02Is_any _ _ W H _ _ _ xs ((hbox_new w W H (.slice ao n c) 27).alloc _) (by exact (hA'.out.alloc _).alloc _) hm).mono ?_
    rintro e w1 ⟨rfl, hB⟩
    rw [hv'.out]
    obtain ⟨y0, y1, y2, f0, f1, f2⟩ := rbox_facts ((rbox_at (w.alloc _) (w.heap.size + 1) (by simp)).bel hB)
    have hB' := Lib.hid hB
    clear hB
    go_wp2_with fail
    refine bodyPost_ret (v := .tuple #[hillV 0 0 none 0 0, .bool false]) (by simp [results, Try.results30, go_sem, y0, y1, y2]) rfl (hret_no hR.out ?_)
    exact ((((((Bel.refl w).alloc _).alloc _).trans hB'.out).setCell (by simp) _).setCell (by simp) _).setCell (by simp) _
  | true =>
    obtain ⟨a, b, rfl, rfl, ha1, ha2, hb1, hb2, rfl, hf⟩ := valid_nat hv
    have hv' := Lib.hid hv
    have hpos : 0 < b * a := Nat.mul_pos (by omega) (by omega)
    have h256 : b * a ≤ 256 := Nat.mul_le_mul hb2 ha2
    obtain ⟨bo, off, rfl, _⟩ := hA'.out.at0 hpos
    have hR0 := Lib.hid (show scaleR a b (b * a) xs BY = if fin32B BY then madeR a b (scaleF xs BY) else noR by unfold scaleR; rw [hv]; simp)
    clear hv hf
    go_enter Try.func30, Try.ntmps30
    go_wp2_with fail
    refine (l02Is_any _ _ a b _ _ _ xs ((hbox_new w a b (.slice (some ⟨bo, off, none⟩) (b * a) c) 27).alloc _) (by exact (hA'.out.alloc _).alloc _) hm).mono ?_
    rintro e w1 ⟨rfl, hB⟩
    rw [hv'.out]
    have hX := Lib.hid (HBox.bel ((hbox_new w a b (.slice (some ⟨bo, off, none⟩) (b * a) c) 27).alloc _) hB)
    have hY := Lib.hid ((rbox_at (w.alloc _) (w.heap.size + 1) (by simp)).bel hB)
    have hA1 := Lib.hid (((hA'.out.alloc _).alloc _).bel hB)
    have hB' := Lib.hid ((((Bel.refl w).alloc _).alloc _).trans hB)
    clear hB
    go_wp2_with fail
    refine (l01Finite_any by' BY hby _).mono ?_
    rintro e w2 ⟨rfl, hD⟩
    have hB2 := dr_bel hD
    replace hX := Lib.hid (hX.out.bel hB2)
    replace hY := Lib.hid (hY.out.bel hB2)
    replace hA1 := Lib.hid (hA1.out.bel hB2)
    replace hB' := Lib.hid (hB'.out.trans hB2)
    clear hB2 hD
    cases hfy : fin32B BY with
    | false =>
      have hR := Lib.hid (show scaleR a b (b * a) xs BY = noR by rw [hR0.out, hfy]; rfl)
      obtain ⟨y0, y1, y2, f0, f1, f2⟩ := rbox_facts hY.out
      clear hfy
      go_wp2_with fail
      refine bodyPost_ret (v := .tuple #[hillV 0 0 none 0 0, .bool false]) (by simp [results, Try.results30, go_sem, y0, y1, y2]) rfl (hret_no hR.out ?_)
      exact ((hB'.out.setCell (by simp) _).setCell (by simp) _).setCell (by simp) _
    | true =>
      have hR := Lib.hid (show scaleR a b (b * a) xs BY = madeR a b (scaleF xs BY) by rw [hR0.out, hfy]; rfl)
      clear hfy
      go_wp2_with fail
      refine (l02Own_any w2 w.heap.size a b bo off (b * a) c xs hX.out hA1.out hpos hm).mono ?_
      rintro e w3 ⟨g, cap, rfl, hO, hB3⟩
      replace hB' := Lib.hid (hB'.out.trans hB3)
      have hsz2 := hY.out.1
      replace hY := Lib.hid (hY.out.bel hB3)
      have hO' := Lib.hid (hO.mono (show w.heap.size + 2 ≤ w2.heap.size from hsz2) (Nat.le_refl _))
      clear hO hB3
      obtain ⟨hg1, hg2, _, _⟩ := hO'.out.own _ rfl
      have hg1' := Lib.hid hg1
      have hg2' := Lib.hid hg2
      clear hg1 hg2
      go_wp2
      go_loopw [7] (fun t wr => ∃ i : Nat, i ≤ b * a ∧ t = .int .i64 i ∧ Hid (SRel (w3.alloc (.cells #[.int .i64 a, .int .i64 b, .slice (some ⟨g, 0, none⟩) (b * a) cap] 27)) (w.heap.size + 2) w3.heap.size g (scaleF xs BY) xs (b * a) i wr)) (fun t _ => b * a - (intOf t).toNat)
      case atStart => exact ⟨0, Nat.zero_le _, rfl, Lib.hid ⟨xs, SSt.start (hO'.out.alloc _)⟩⟩
      case round =>
        obtain ⟨i, hi, rfl, hM⟩ := hrel
        obtain ⟨ys, hS⟩ := hM.out
        have hX1 := Lib.hid (hbox_belx (hbox_new w3 a b (.slice (some ⟨g, 0, none⟩) (b * a) cap) 27) hS.bel (by have := hg2'.out; simp at this ⊢; omega))
        obtain ⟨_, c0, c1, c2⟩ := hX1.out
        by_cases hlt : i < b * a
        · have hi1 : (i : Int) < (b : Int) * (a : Int) := by rw [← Int.natCast_mul]; omega
          have hS' := Lib.hid hS
          have hiv : ys.getD i 0 = xs.getD i 0 := hS.left i (Nat.le_refl _) hlt
          obtain ⟨X, hXd⟩ : ∃ X, X = ys.getD i 0 := ⟨_, rfl⟩
          have hr : Is .f32 X (cn .f32 (xs.getD i 0)) := by rw [← hiv, hXd]; exact hS.row.row.is hlt
          have eg : fop .mul .f32 (cn .f32 (xs.getD i 0)) BY = scaleF xs BY i := rfl
          obtain ⟨Y, hYd⟩ : ∃ Y, Y = cn .f32 (xs.getD i 0) := ⟨_, rfl⟩
          rw [← hYd] at hr eg
          have hXd' := Lib.hid hXd
          have eg' := Lib.hid eg
          clear hS hM hiv hYd hXd eg
          go_wp2_with fail
          (refine Rk.region_K (Le := Bel) [0, 1, 2, 3, 4, 5, 6, 7, 8, 9, 10] [11] Rk.good_bel (by kernel_rfl) (by kernel_rfl) (by kernel_rfl) (by kernel_rfl) ?_; (try simp only [Rk.pick, List.getElem?_cons_succ, List.getElem?_cons_zero, Option.toList_some, List.cons_append, List.nil_append, List.map_cons, List.map_nil]))
          repeat (first | ((with_reducible refine Rk.wpR_move Rk.good_bel (S := ?_) ?_ ?_ ?_ ?_); (first | exact Rk.yes_none | exact Rk.yes_some rfl rfl); rotate_left 2; (simp only [Rk.slotS, List.getD_cons_succ, List.getD_cons_zero]; rfl); rotate_left 1; (first | exact Rk.mon_is1 _ | exact Rk.mon_isF _ _ | assumption); (try simp only [Rk.upd, List.set_cons_succ, List.set_cons_zero])) | ((with_reducible refine Rk.wpR_assign Rk.good_bel (S := ?_) ?_ ?_ ?_ ?_); (first | exact Rk.yes_none | exact Rk.yes_some rfl rfl); rotate_left 2; (simp only [Rk.slotS, List.getD_cons_succ, List.getD_cons_zero]; rfl); rotate_left 1; (first | exact Rk.mon_is1 _ | exact Rk.mon_isF _ _ | assumption); (try simp only [Rk.upd, List.set_cons_succ, List.set_cons_zero])) | ((with_reducible refine Rk.wpR_skip (d := ?_) (c := ?_) ?_ ?_ ?_ ?_); rotate_left 2; rfl; rfl; rfl; (try simp only [Rk.upd, List.set_cons_succ, List.set_cons_zero])) | ((with_reducible refine Rk.wpR_pickT Rk.good_bel (S := ?_) ?_ ?_ ?_ ?_ ?_); (first | exact Rk.yes_none | exact Rk.yes_some rfl rfl); rotate_left 2; rfl; (simp only [Rk.slotS, List.getD_cons_succ, List.getD_cons_zero]; rfl); rotate_left 1; (first | exact Rk.mon_is1 _ | exact Rk.mon_isF _ _ | assumption); (try simp only [Rk.upd, List.set_cons_succ, List.set_cons_zero])) | ((with_reducible refine Rk.wpR_pickF Rk.good_bel (S := ?_) ?_ ?_ ?_ ?_ ?_); (first | exact Rk.yes_none | exact Rk.yes_some rfl rfl); rotate_left 2; rfl; (simp only [Rk.slotS, List.getD_cons_succ, List.getD_cons_zero]; rfl); rotate_left 1; (first | exact Rk.mon_is1 _ | exact Rk.mon_isF _ _ | assumption); (try simp only [Rk.upd, List.set_cons_succ, List.set_cons_zero])) | ((with_reducible refine Rk.wpR_widen Rk.good_bel Try.underlying32 Try.underlying56 (X := ?_) (S := ?_) ?_ ?_ ?_ ?_); rotate_left 2; (first | exact Rk.yes_none | exact Rk.yes_some rfl rfl); (simp only [Rk.slotS, List.getD_cons_succ, List.getD_cons_zero]; rfl); (first | exact Rk.subF_is _ _ | (refine Rk.subF_eq ?_; (first | assumption | ((refine Is.lit ?_); decide +kernel) | (refine Is.ofInt _ _)))); (try simp only [Rk.upd, List.set_cons_succ, List.set_cons_zero])) | ((with_reducible refine Rk.wpR_fadd Rk.good_bel (k := ?_) (X := ?_) (Y := ?_) (S := ?_) (T := ?_) ?_ ?_ ?_ ?_ ?_ ?_); rotate_left 5; (first | exact Rk.yes_none | exact Rk.yes_some rfl rfl); (simp only [Rk.slotS, List.getD_cons_succ, List.getD_cons_zero]; rfl); (simp only [Rk.slotS, List.getD_cons_succ, List.getD_cons_zero]; rfl); (first | exact Rk.subF_is _ _ | (refine Rk.subF_eq ?_; (first | assumption | ((refine Is.lit ?_); decide +kernel) | (refine Is.ofInt _ _)))); (first | exact Rk.subF_is _ _ | (refine Rk.subF_eq ?_; (first | assumption | ((refine Is.lit ?_); decide +kernel) | (refine Is.ofInt _ _)))); (try simp only [Rk.upd, List.set_cons_succ, List.set_cons_zero])) | ((with_reducible refine Rk.wpR_fsub Rk.good_bel (k := ?_) (X := ?_) (Y := ?_) (S := ?_) (T := ?_) ?_ ?_ ?_ ?_ ?_ ?_); rotate_left 5; (first | exact Rk.yes_none | exact Rk.yes_some rfl rfl); (simp only [Rk.slotS, List.getD_cons_succ, List.getD_cons_zero]; rfl); (simp only [Rk.slotS, List.getD_cons_succ, List.getD_cons_zero]; rfl); (first | exact Rk.subF_is _ _ | (refine Rk.subF_eq ?_; (first | assumption | ((refine Is.lit ?_); decide +kernel) | (refine Is.ofInt _ _)))); (first | exact Rk.subF_is _ _ | (refine Rk.subF_eq ?_; (first | assumption | ((refine Is.lit ?_); decide +kernel) | (refine Is.ofInt _ _)))); (try simp only [Rk.upd, List.set_cons_succ, List.set_cons_zero])) | ((with_reducible refine Rk.wpR_fmul Rk.good_bel (k := ?_) (X := ?_) (Y := ?_) (S := ?_) (T := ?_) ?_ ?_ ?_ ?_ ?_ ?_); rotate_left 5; (first | exact Rk.yes_none | exact Rk.yes_some rfl rfl); (simp only [Rk.slotS, List.getD_cons_succ, List.getD_cons_zero]; rfl); (simp only [Rk.slotS, List.getD_cons_succ, List.getD_cons_zero]; rfl); (first | exact Rk.subF_is _ _ | (refine Rk.subF_eq ?_; (first | assumption | ((refine Is.lit ?_); decide +kernel) | (refine Is.ofInt _ _)))); (first | exact Rk.subF_is _ _ | (refine Rk.subF_eq ?_; (first | assumption | ((refine Is.lit ?_); decide +kernel) | (refine Is.ofInt _ _)))); (try simp only [Rk.upd, List.set_cons_succ, List.set_cons_zero])) | ((with_reducible refine Rk.wpR_fquo Rk.good_bel (k := ?_) (X := ?_) (Y := ?_) (S := ?_) (T := ?_) ?_ ?_ ?_ ?_ ?_ ?_); rotate_left 5; (first | exact Rk.yes_none | exact Rk.yes_some rfl rfl); (simp only [Rk.slotS, List.getD_cons_succ, List.getD_cons_zero]; rfl); (simp only [Rk.slotS, List.getD_cons_succ, List.getD_cons_zero]; rfl); (first | exact Rk.subF_is _ _ | (refine Rk.subF_eq ?_; (first | assumption | ((refine Is.lit ?_); decide +kernel) | (refine Is.ofInt _ _)))); (first | exact Rk.subF_is _ _ | (refine Rk.subF_eq ?_; (first | assumption | ((refine Is.lit ?_); decide +kernel) | (refine Is.ofInt _ _)))); (try simp only [Rk.upd, List.set_cons_succ, List.set_cons_zero])) | ((with_reducible refine Rk.wpR_feq Rk.good_bel (k := ?_) (X := ?_) (Y := ?_) (S := ?_) (T := ?_) ?_ ?_ ?_ ?_ ?_ ?_); rotate_left 5; (first | exact Rk.yes_none | exact Rk.yes_some rfl rfl); (simp only [Rk.slotS, List.getD_cons_succ, List.getD_cons_zero]; rfl); (simp only [Rk.slotS, List.getD_cons_succ, List.getD_cons_zero]; rfl); (first | exact Rk.subF_is _ _ | (refine Rk.subF_eq ?_; (first | assumption | ((refine Is.lit ?_); decide +kernel) | (refine Is.ofInt _ _)))); (first | exact Rk.subF_is _ _ | (refine Rk.subF_eq ?_; (first | assumption | ((refine Is.lit ?_); decide +kernel) | (refine Is.ofInt _ _)))); (try simp only [Rk.upd, List.set_cons_succ, List.set_cons_zero])) | ((with_reducible refine Rk.wpR_fne Rk.good_bel (k := ?_) (X := ?_) (Y := ?_) (S := ?_) (T := ?_) ?_ ?_ ?_ ?_ ?_ ?_); rotate_left 5; (first | exact Rk.yes_none | exact Rk.yes_some rfl rfl); (simp only [Rk.slotS, List.getD_cons_succ, List.getD_cons_zero]; rfl); (simp only [Rk.slotS, List.getD_cons_succ, List.getD_cons_zero]; rfl); (first | exact Rk.subF_is _ _ | (refine Rk.subF_eq ?_; (first | assumption | ((refine Is.lit ?_); decide +kernel) | (refine Is.ofInt _ _)))); (first | exact Rk.subF_is _ _ | (refine Rk.subF_eq ?_; (first | assumption | ((refine Is.lit ?_); decide +kernel) | (refine Is.ofInt _ _)))); (try simp only [Rk.upd, List.set_cons_succ, List.set_cons_zero])) | ((with_reducible refine Rk.wpR_flt Rk.good_bel (k := ?_) (X := ?_) (Y := ?_) (S := ?_) (T := ?_) ?_ ?_ ?_ ?_ ?_ ?_); rotate_left 5; (first | exact Rk.yes_none | exact Rk.yes_some rfl rfl); (simp only [Rk.slotS, List.getD_cons_succ, List.getD_cons_zero]; rfl); (simp only [Rk.slotS, List.getD_cons_succ, List.getD_cons_zero]; rfl); (first | exact Rk.subF_is _ _ | (refine Rk.subF_eq ?_; (first | assumption | ((refine Is.lit ?_); decide +kernel) | (refine Is.ofInt _ _)))); (first | exact Rk.subF_is _ _ | (refine Rk.subF_eq ?_; (first | assumption | ((refine Is.lit ?_); decide +kernel) | (refine Is.ofInt _ _)))); (try simp only [Rk.upd, List.set_cons_succ, List.set_cons_zero])) | ((with_reducible refine Rk.wpR_fgt Rk.good_bel (k := ?_) (X := ?_) (Y := ?_) (S := ?_) (T := ?_) ?_ ?_ ?_ ?_ ?_ ?_); rotate_left 5; (first | exact Rk.yes_none | exact Rk.yes_some rfl rfl); (simp only [Rk.slotS, List.getD_cons_succ, List.getD_cons_zero]; rfl); (simp only [Rk.slotS, List.getD_cons_succ, List.getD_cons_zero]; rfl); (first | exact Rk.subF_is _ _ | (refine Rk.subF_eq ?_; (first | assumption | ((refine Is.lit ?_); decide +kernel) | (refine Is.ofInt _ _)))); (first | exact Rk.subF_is _ _ | (refine Rk.subF_eq ?_; (first | assumption | ((refine Is.lit ?_); decide +kernel) | (refine Is.ofInt _ _)))); (try simp only [Rk.upd, List.set_cons_succ, List.set_cons_zero])) | ((with_reducible refine Rk.wpR_fge Rk.good_bel (k := ?_) (X := ?_) (Y := ?_) (S := ?_) (T := ?_) ?_ ?_ ?_ ?_ ?_ ?_); rotate_left 5; (first | exact Rk.yes_none | exact Rk.yes_some rfl rfl); (simp only [Rk.slotS, List.getD_cons_succ, List.getD_cons_zero]; rfl); (simp only [Rk.slotS, List.getD_cons_succ, List.getD_cons_zero]; rfl); (first | exact Rk.subF_is _ _ | (refine Rk.subF_eq ?_; (first | assumption | ((refine Is.lit ?_); decide +kernel) | (refine Is.ofInt _ _)))); (first | exact Rk.subF_is _ _ | (refine Rk.subF_eq ?_; (first | assumption | ((refine Is.lit ?_); decide +kernel) | (refine Is.ofInt _ _)))); (try simp only [Rk.upd, List.set_cons_succ, List.set_cons_zero])) | ((with_reducible refine Rk.wpR_fle Rk.good_bel (k := ?_) (X := ?_) (Y := ?_) (S := ?_) (T := ?_) ?_ ?_ ?_ ?_ ?_ ?_); rotate_left 5; (first | exact Rk.yes_none | exact Rk.yes_some rfl rfl); (simp only [Rk.slotS, List.getD_cons_succ, List.getD_cons_zero]; rfl); (simp only [Rk.slotS, List.getD_cons_succ, List.getD_cons_zero]; rfl); (first | exact Rk.subF_is _ _ | (refine Rk.subF_eq ?_; (first | assumption | ((refine Is.lit ?_); decide +kernel) | (refine Is.ofInt _ _)))); (first | exact Rk.subF_is _ _ | (refine Rk.subF_eq ?_; (first | assumption | ((refine Is.lit ?_); decide +kernel) | (refine Is.ofInt _ _)))); (try simp only [Rk.upd, List.set_cons_succ, List.set_cons_zero])) | ((with_reducible refine Rk.wpR_indexAddr Rk.good_bel (v := ?_) (v' := ?_) (u := ?_) ?_ ?_ ?_ ?_ ?_); rotate_left 3; (first | exact Rk.yes_none | exact Rk.yes_some rfl rfl); (simp only [Rk.slotS, List.getD_cons_succ, List.getD_cons_zero]; rfl); (simp only [Rk.slotS, List.getD_cons_succ, List.getD_cons_zero]; rfl); (intro ρ w' hw hK1 hK2; go_simp; rfl); (try simp only [Rk.upd, List.set_cons_succ, List.set_cons_zero])) | ((with_reducible refine Rk.wpR_binOp Rk.good_bel (v := ?_) (v' := ?_) (u := ?_) ?_ ?_ ?_ ?_ ?_); rotate_left 3; (first | exact Rk.yes_none | exact Rk.yes_some rfl rfl); (simp only [Rk.slotS, List.getD_cons_succ, List.getD_cons_zero]; rfl); (simp only [Rk.slotS, List.getD_cons_succ, List.getD_cons_zero]; rfl); (intro ρ w' hw hK1 hK2; go_simp; rfl); (try simp only [Rk.upd, List.set_cons_succ, List.set_cons_zero])) | ((with_reducible refine Rk.wpR_load Rk.good_bel (v := ?_) (u := ?_) ?_ ?_ ?_ ?_); rotate_left 2; (first | exact Rk.yes_none | exact Rk.yes_some rfl rfl); (simp only [Rk.slotS, List.getD_cons_succ, List.getD_cons_zero]; rfl); (intro ρ w' hw hK1; obtain ⟨_, k0, k1, k2⟩ := HBox.bel hX1.out hw; have kk := frow_cell hS'.out.row.row hw hlt; rw [← hXd'.out, Nat.zero_add] at kk; go_simp; rfl); (try simp only [Rk.upd, List.set_cons_succ, List.set_cons_zero])) | ((with_reducible refine Rk.wpR_unOp Rk.good_bel (v := ?_) (u := ?_) ?_ ?_ ?_ ?_); rotate_left 2; (first | exact Rk.yes_none | exact Rk.yes_some rfl rfl); (simp only [Rk.slotS, List.getD_cons_succ, List.getD_cons_zero]; rfl); (intro ρ w' hw hK1; go_simp; rfl); (try simp only [Rk.upd, List.set_cons_succ, List.set_cons_zero])) | ((with_reducible refine Rk.wpR_convert Rk.good_bel (v := ?_) (u := ?_) ?_ ?_ ?_ ?_); rotate_left 2; (first | exact Rk.yes_none | exact Rk.yes_some rfl rfl); (simp only [Rk.slotS, List.getD_cons_succ, List.getD_cons_zero]; rfl); (intro ρ w' hw hK1; go_simp; rfl); (try simp only [Rk.upd, List.set_cons_succ, List.set_cons_zero])) | ((with_reducible refine Rk.wpR_field Rk.good_bel (v := ?_) (u := ?_) ?_ ?_ ?_ ?_); rotate_left 2; (first | exact Rk.yes_none | exact Rk.yes_some rfl rfl); (simp only [Rk.slotS, List.getD_cons_succ, List.getD_cons_zero]; rfl); (intro ρ w' hw hK1; go_simp; rfl); (try simp only [Rk.upd, List.set_cons_succ, List.set_cons_zero])) | ((with_reducible refine Rk.wpR_fieldAddr Rk.good_bel (v := ?_) (u := ?_) ?_ ?_ ?_ ?_); rotate_left 2; (first | exact Rk.yes_none | exact Rk.yes_some rfl rfl); (simp only [Rk.slotS, List.getD_cons_succ, List.getD_cons_zero]; rfl); (intro ρ w' hw hK1; go_simp; rfl); (try simp only [Rk.upd, List.set_cons_succ, List.set_cons_zero])) | ((with_reducible refine Rk.wpR_nilCheck Rk.good_bel (v := ?_) (u := ?_) ?_ ?_ ?_ ?_); rotate_left 2; (first | exact Rk.yes_none | exact Rk.yes_some rfl rfl); (simp only [Rk.slotS, List.getD_cons_succ, List.getD_cons_zero]; rfl); (intro ρ w' hw hK1; go_simp; rfl); (try simp only [Rk.upd, List.set_cons_succ, List.set_cons_zero])) | ((with_reducible refine Rk.wpR_builtin1 Rk.good_bel (v := ?_) (u := ?_) ?_ ?_ ?_ ?_); rotate_left 2; (first | exact Rk.yes_none | exact Rk.yes_some rfl rfl); (simp only [Rk.slotS, List.getD_cons_succ, List.getD_cons_zero]; rfl); (intro ρ w' hw hK1; go_simp; rfl); (try simp only [Rk.upd, List.set_cons_succ, List.set_cons_zero])) | ((with_reducible refine Rk.wpR_extract Rk.good_bel (v := ?_) (u := ?_) ?_ ?_ ?_ ?_); rotate_left 2; (first | exact Rk.yes_none | exact Rk.yes_some rfl rfl); (simp only [Rk.slotS, List.getD_cons_succ, List.getD_cons_zero]; rfl); (intro ρ w' hw hK1; go_simp; rfl); (try simp only [Rk.upd, List.set_cons_succ, List.set_cons_zero])))
          refine Rk.wpR_end ?_
          intro wK hwK
          repeat (first | refine Rk.all2_is1 ?_ | (refine Rk.all2_isF ?_; intro r0 hr0))
          refine Rk.all2_nil ?_
          have hrow := hS'.out.row.bel hwK
          have kc := frow_cell hrow.row (Bel.refl _) hlt
          have kf := (hrow.own _ rfl).2.2.2
          rw [Nat.zero_add] at kc
          have ks := run_store_float (P := Try.prog) kc (kf i)
          have hN := Lib.hid (hS'.out.next hlt hwK (by rw [← eg'.out]; exact hr0))
          clear hrow hwK kf kc
          go_wp2
          refine ⟨⟨i + 1, by omega, by simp, Lib.hid ⟨_, by have := hN.out; rw [Nat.zero_add] at this; exact this⟩⟩, ?_⟩
          show b * a - (((i : Nat) : Int) + 1).toNat < b * a - ((i : Nat) : Int).toNat
          omega
        · obtain rfl : i = b * a := by omega
          have hle : ¬ (((b * a : Nat) : Int) < (b : Int) * (a : Int)) := by rw [Int.natCast_mul]; omega
          have hds : ∀ j, j < b * a → cn .f32 (ys.getD j 0) = scaleF xs BY j := fun j hj => (hS.done j hj).2
          have hv1 := valid_made (F := scaleF xs BY) ha1 ha2 hb1 hb2 hds
          have hv1' := Lib.hid hv1
          have hY2 := Lib.hid (rbox_belx (hY.out.bel ((Bel.refl _).alloc _)) hS.bel (by have := hg1'.out; simp; omega))
          have hrow := Lib.hid hS.row
          have hBB := Lib.hid (belx_bel (hB'.out.alloc _) hS.bel (by have := hg1'.out; omega))
          have hds' := Lib.hid hds
          have hszr := hS.bel.size
          simp at hszr
          clear hS hM hv1 hds
          go_wp2_with fail
          refine (give_any _ _ _ _ _ _ ys hrow.out.row hm).mono ?_
          rintro e w5 ⟨rfl, hB5⟩
          rw [hv1'.out]
          obtain ⟨y0, y1, y2, f0, f1, f2⟩ := rbox_facts (hY2.out.bel hB5)
          have hrow5 := Lib.hid (hrow.out.bel hB5)
          have hB5' := Lib.hid hB5
          have hsz5 := Lib.hid (show w3.heap.size ≤ w5.heap.size from by have := hB5.size; omega)
          clear hB5
          cases hal : allB (fun i => fin32B (scaleF xs BY i)) (b * a) with
          | true =>
            have hR2 := Lib.hid (madeR_t hal)
            clear hal
            go_wp2_with fail
            refine bodyPost_ret (v := .tuple #[hillV a b (some ⟨g, 0, none⟩) (b * a) cap, .bool true]) (by simp [results, Try.results30, go_sem, y0, y1, y2]) rfl ?_
            refine hret_set3 (by rw [hR.out, hR2.out]) (by rw [hR.out, hR2.out]) (by rw [hR.out, hR2.out]) (by rw [hR.out, hR2.out]) (hrow5.out.mono (by omega) hsz5.out) (fun q hq => by cases hq; have := hg1'.out; simp at this ⊢; omega) (fun j hj => by rw [hR.out, hR2.out]; exact hds'.out j hj) (hBB.out.trans hB5'.out) (by omega)
          | false =>
            have hR2 := Lib.hid (madeR_f hal)
            clear hal
            go_wp2_with fail
            refine bodyPost_ret (v := .tuple #[hillV 0 0 none 0 0, .bool false]) (by simp [results, Try.results30, go_sem, y0, y1, y2]) rfl (hret_no' (hR.out.trans hR2.out) ?_)
            exact (((hBB.out.trans hB5'.out).setCell (by simp) _).setCell (by simp) _).setCell (by simp) _
end Go.Proofs.Ytobghfjkkkfecaa
