/-
  CONTRACTS: the reference's hill turned.
-/
import Derived.Test.YtobghfjkkkfecaaH7
set_option linter.unusedSimpArgs false
set_option linter.unusedVariables false
namespace Go.Proofs.Ytobghfjkkkfecaa
open Go.RowKit Go.Fl

theorem turn_step {a b k : Nat} (ha1 : 1 ≤ a) (ha : a ≤ 16) (hb1 : 1 ≤ b) (hb : b ≤ 16) (hk : k < a * b) : ∃ x y p1 p2 p3 m : Nat, (k : Int) % (b : Int) = (x : Int) ∧ wrap64 ((k : Int) / (b : Int)) = (y : Int) ∧
    IntKind.i64.wrap ((b : Int) - 1) = (p1 : Int) ∧ IntKind.i64.wrap ((p1 : Int) - x) = (p2 : Int) ∧ IntKind.i64.wrap ((p2 : Int) * a) = (p3 : Int) ∧ IntKind.i64.wrap ((p3 : Int) + y) = (m : Int) ∧ m < b * a ∧ m = turnAt a b k := by
  have h1 : k % b < b := Nat.mod_lt _ (by omega)
  have h2 := turn_lt ha1 hb1 hk
  have h256 : b * a ≤ 256 := Nat.mul_le_mul hb ha
  have h3 : k / b ≤ k := Nat.div_le_self _ _
  have hc : a * b = b * a := Nat.mul_comm a b
  have hm : (b - 1 - k % b) * a + k / b = turnAt a b k := rfl
  have h4 : (b - 1 - k % b) * a ≤ b * a := Nat.mul_le_mul_right a (by omega)
  have h5 : ∀ q : Nat, q ≤ 256 → wrap64 (q : Int) = (q : Int) := fun q hq => by unfold wrap64; omega
  refine ⟨k % b, k / b, b - 1, b - 1 - k % b, (b - 1 - k % b) * a, turnAt a b k, (Int.natCast_emod k b).symm, ?_, ?_, ?_, ?_, ?_, h2, rfl⟩
  · rw [← Int.natCast_ediv]; exact h5 _ (by omega)
  · rw [IntWalk.i64_in _ (by omega)]; omega
  · rw [IntWalk.i64_in _ (by omega)]; omega
  · rw [← Int.natCast_mul]; exact IntWalk.i64_in _ (by omega)
  · rw [← Int.natCast_add]; exact IntWalk.i64_in _ (by omega)
set_option maxRecDepth 100000 in
set_option maxHeartbeats 4000000 in
theorem sTurnHill_any (w : World) (W H : Int) (ao : Option Addr) (n c : Nat) (xs : List Nat) (hA : FRow w ao n xs) (hm : n ≤ 1048576) :
    Calls Try.prog 26 #[hillV W H ao n c] w (HRet (turnR W H n xs) w) := by
  obtain ⟨i0, hi0, hz0, hz1, hz2⟩ := info_parts infoF32
  have hA' := Lib.hid hA
  clear hA
  cases hv : validB W H n xs with
  | false =>
    have hR := Lib.hid (show turnR W H n xs = ⟨false, 0, 0, 0, fun _ => 0⟩ by unfold turnR; rw [hv]; rfl)
    have hv' := Lib.hid hv
    clear hv
    go_enter Try.func26, Try.ntmps26
    go_wp2_with fail
    refine (l02Is_any _ _ W H _ _ _ xs ((hbox_new w W H (.slice ao n c) 27).alloc _) (by exact (hA'.out.alloc _).alloc _) hm).mono ?_
    rintro e w1 ⟨rfl, hB⟩
    rw [hv'.out]
    have hY := HBox.bel (hbox_at (w.alloc _) (w.heap.size + 1) (by simp) 0 0 (.slice none 0 0) 27) hB
    obtain ⟨_, y0, y1, y2⟩ := hY
    have f0 : w1.frozen? ⟨w.heap.size + 1, 0, none⟩ = false := by rw [hB.frozen (by simp)]; go_simp
    have f1 : w1.frozen? ⟨w.heap.size + 1, 1, none⟩ = false := by rw [hB.frozen (by simp)]; go_simp
    have f2 : w1.frozen? ⟨w.heap.size + 1, 2, none⟩ = false := by rw [hB.frozen (by simp)]; go_simp
    have hB' := Lib.hid hB
    clear hB
    go_wp2_with fail
    refine bodyPost_ret (v := .tuple #[hillV 0 0 none 0 0, .bool false]) (by simp [results, Try.results26, go_sem, y0, y1, y2]) rfl ?_
    rw [hR.out]
    refine ⟨none, 0, [], rfl, ORow.nil _ _ _, fun i hi => absurd hi (Nat.not_lt_zero _), ?_⟩
    exact ((((((Bel.refl w).alloc _).alloc _).trans hB'.out).setCell (by simp) _).setCell (by simp) _).setCell (by simp) _
  | true =>
    obtain ⟨a, b, rfl, rfl, ha1, ha2, hb1, hb2, rfl, hf⟩ := valid_nat hv
    have hR := Lib.hid (show turnR a b (b * a) xs = ⟨true, b, a, a * b, turnF a b xs⟩ by unfold turnR; rw [hv]; unfold madeR; simp [turn_fin ha1 hb1 hf])
    have hv' := Lib.hid hv
    clear hv hf
    have hpos : 0 < b * a := Nat.mul_pos (by omega) (by omega)
    have h256 : b * a ≤ 256 := Nat.mul_le_mul hb2 ha2
    have hcomm : a * b = b * a := Nat.mul_comm a b
    have hcomm' := Lib.hid hcomm
    clear hcomm
    obtain ⟨bo, off, rfl, _⟩ := hA'.out.at0 hpos
    go_enter Try.func26, Try.ntmps26
    go_wp2_with fail
    refine (l02Is_any _ _ a b _ _ _ xs ((hbox_new w a b (.slice (some ⟨bo, off, none⟩) (b * a) c) 27).alloc _) (by exact (hA'.out.alloc _).alloc _) hm).mono ?_
    rintro e w1 ⟨rfl, hB⟩
    rw [hv'.out]
    have hX := HBox.bel ((hbox_new w a b (.slice (some ⟨bo, off, none⟩) (b * a) c) 27).alloc _) hB
    have hX' := Lib.hid hX
    have hY := Lib.hid (HBox.bel (hbox_at (w.alloc _) (w.heap.size + 1) (by simp) 0 0 (.slice none 0 0) 27) hB)
    obtain ⟨_, x0, x1, x2⟩ := hX
    have hA1 := Lib.hid (((hA'.out.alloc _).alloc _).bel hB)
    have g0 : w1.frozen? ⟨w.heap.size + 1, 0, none⟩ = false := by rw [hB.frozen (by simp)]; go_simp
    have g1 : w1.frozen? ⟨w.heap.size + 1, 1, none⟩ = false := by rw [hB.frozen (by simp)]; go_simp
    have g2 : w1.frozen? ⟨w.heap.size + 1, 2, none⟩ = false := by rw [hB.frozen (by simp)]; go_simp
    have hG := Lib.hid (And.intro g0 (And.intro g1 g2))
    clear g0 g1 g2
    have hB' := Lib.hid hB
    have hsz := Lib.hid (show w.heap.size + 2 ≤ w1.heap.size from by have := Below.size hB; simp at this; omega)
    clear hB
    have eb : ((b : Int) == 0) = false := by simp; omega
    go_wp2
    go_loopw [5] (fun t wr => ∃ k : Nat, k ≤ a * b ∧ t = .int .i64 k ∧ Hid (MRel w1 (turnF a b xs) b a (w1.heap.size + 1) k wr)) (fun t _ => a * b - (intOf t).toNat)
    case atStart => exact ⟨0, Nat.zero_le _, rfl, Lib.hid (mrel_start0 w1 _ _ _ rfl)⟩
    case round =>
      obtain ⟨k, hk, rfl, hM⟩ := hrel
      obtain ⟨v, ws, hS⟩ := hM.out
      have c0 := hS.c0
      have c1 := hS.c1
      have hc2 := Lib.hid hS.c2
      by_cases hlt : k < a * b
      · have e1 : ((k : Int) < b * a) := by have := hcomm'.out; rw [← Int.natCast_mul]; omega
        have hlt' := Lib.hid hlt
        have hX1 := Lib.hid (hX'.out.bel hS.bel.bel)
        have hA2 := Lib.hid (hA1.out.bel hS.bel.bel)
        have hs0 := hS.size
        have hs1 := Lib.hid hs0
        clear hs0
        have hS' := Lib.hid hS
        have hbx := Lib.hid hS.box
        have hkb : k ≤ 256 := by have := hcomm'.out; omega
        obtain ⟨x, y, p1, p2, p3, m, em, ed, r1, r2, r3, r4, hmlt, hmt⟩ := turn_step ha1 ha2 hb1 hb2 hlt
        clear hS hM hlt
        go_wp2_with fail
        have hc := hA2.out
        have hr : Is .f32 (xs.getD m 0) (turnF a b xs k) := by unfold turnF; rw [← hmt]; exact hA2.out.is hmlt
        obtain ⟨X, hXd⟩ : ∃ X, X = xs.getD m 0 := ⟨_, rfl⟩
        rw [← hXd] at hr
        have hXd' := Lib.hid hXd
        have hmt' := Lib.hid hmt
        clear hXd hmt
        have hmi : (m : Int) < (b : Int) * (a : Int) := (by rw [← Int.natCast_mul]; omega)
        (refine Rk.region_K (Le := Bel) [0, 1, 2, 3, 4, 5, 6, 7, 8, 9, 10, 11, 12, 13, 14, 15, 16] [17, 18, 19] Rk.good_bel (by kernel_rfl) (by kernel_rfl) (by kernel_rfl) (by kernel_rfl) ?_; (try simp only [Rk.pick, List.getElem?_cons_succ, List.getElem?_cons_zero, Option.toList_some, List.cons_append, List.nil_append, List.map_cons, List.map_nil]))
        repeat (first | ((with_reducible refine Rk.wpR_move Rk.good_bel (S := ?_) ?_ ?_ ?_ ?_); (first | exact Rk.yes_none | exact Rk.yes_some rfl rfl); rotate_left 2; (simp only [Rk.slotS, List.getD_cons_succ, List.getD_cons_zero]; rfl); rotate_left 1; (first | exact Rk.mon_is1 _ | exact Rk.mon_isF _ _ | assumption); (try simp only [Rk.upd, List.set_cons_succ, List.set_cons_zero])) | ((with_reducible refine Rk.wpR_assign Rk.good_bel (S := ?_) ?_ ?_ ?_ ?_); (first | exact Rk.yes_none | exact Rk.yes_some rfl rfl); rotate_left 2; (simp only [Rk.slotS, List.getD_cons_succ, List.getD_cons_zero]; rfl); rotate_left 1; (first | exact Rk.mon_is1 _ | exact Rk.mon_isF _ _ | assumption); (try simp only [Rk.upd, List.set_cons_succ, List.set_cons_zero])) | ((with_reducible refine Rk.wpR_skip (d := ?_) (c := ?_) ?_ ?_ ?_ ?_); rotate_left 2; rfl; rfl; rfl; (try simp only [Rk.upd, List.set_cons_succ, List.set_cons_zero])) | ((with_reducible refine Rk.wpR_pickT Rk.good_bel (S := ?_) ?_ ?_ ?_ ?_ ?_); (first | exact Rk.yes_none | exact Rk.yes_some rfl rfl); rotate_left 2; rfl; (simp only [Rk.slotS, List.getD_cons_succ, List.getD_cons_zero]; rfl); rotate_left 1; (first | exact Rk.mon_is1 _ | exact Rk.mon_isF _ _ | assumption); (try simp only [Rk.upd, List.set_cons_succ, List.set_cons_zero])) | ((with_reducible refine Rk.wpR_pickF Rk.good_bel (S := ?_) ?_ ?_ ?_ ?_ ?_); (first | exact Rk.yes_none | exact Rk.yes_some rfl rfl); rotate_left 2; rfl; (simp only [Rk.slotS, List.getD_cons_succ, List.getD_cons_zero]; rfl); rotate_left 1; (first | exact Rk.mon_is1 _ | exact Rk.mon_isF _ _ | assumption); (try simp only [Rk.upd, List.set_cons_succ, List.set_cons_zero])) | ((with_reducible refine Rk.wpR_widen Rk.good_bel Try.underlying32 Try.underlying56 (X := ?_) (S := ?_) ?_ ?_ ?_ ?_); rotate_left 2; (first | exact Rk.yes_none | exact Rk.yes_some rfl rfl); (simp only [Rk.slotS, List.getD_cons_succ, List.getD_cons_zero]; rfl); (first | exact Rk.subF_is _ _ | (refine Rk.subF_eq ?_; (first | assumption | ((refine Is.lit ?_); decide +kernel) | (refine Is.ofInt _ _)))); (try simp only [Rk.upd, List.set_cons_succ, List.set_cons_zero])) | ((with_reducible refine Rk.wpR_fadd Rk.good_bel (k := ?_) (X := ?_) (Y := ?_) (S := ?_) (T := ?_) ?_ ?_ ?_ ?_ ?_ ?_); rotate_left 5; (first | exact Rk.yes_none | exact Rk.yes_some rfl rfl); (simp only [Rk.slotS, List.getD_cons_succ, List.getD_cons_zero]; rfl); (simp only [Rk.slotS, List.getD_cons_succ, List.getD_cons_zero]; rfl); (first | exact Rk.subF_is _ _ | (refine Rk.subF_eq ?_; (first | assumption | ((refine Is.lit ?_); decide +kernel) | (refine Is.ofInt _ _)))); (first | exact Rk.subF_is _ _ | (refine Rk.subF_eq ?_; (first | assumption | ((refine Is.lit ?_); decide +kernel) | (refine Is.ofInt _ _)))); (try simp only [Rk.upd, List.set_cons_succ, List.set_cons_zero])) | ((with_reducible refine Rk.wpR_fsub Rk.good_bel (k := ?_) (X := ?_) (Y := ?_) (S := ?_) (T := ?_) ?_ ?_ ?_ ?_ ?_ ?_); rotate_left 5; (first | exact Rk.yes_none | exact Rk.yes_some rfl rfl); (simp only [Rk.slotS, List.getD_cons_succ, List.getD_cons_zero]; rfl); (simp only [Rk.slotS, List.getD_cons_succ, List.getD_cons_zero]; rfl); (first | exact Rk.subF_is _ _ | (refine Rk.subF_eq ?_; (first | assumption | ((refine Is.lit ?_); decide +kernel) | (refine Is.ofInt _ _)))); (first | exact Rk.subF_is _ _ | (refine Rk.subF_eq ?_; (first | assumption | ((refine Is.lit ?_); decide +kernel) | (refine Is.ofInt _ _)))); (try simp only [Rk.upd, List.set_cons_succ, List.set_cons_zero])) | ((with_reducible refine Rk.wpR_fmul Rk.good_bel (k := ?_) (X := ?_) (Y := ?_) (S := ?_) (T := ?_) ?_ ?_ ?_ ?_ ?_ ?_); rotate_left 5; (first | exact Rk.yes_none | exact Rk.yes_some rfl rfl); (simp only [Rk.slotS, List.getD_cons_succ, List.getD_cons_zero]; rfl); (simp only [Rk.slotS, List.getD_cons_succ, List.getD_cons_zero]; rfl); (first | exact Rk.subF_is _ _ | (refine Rk.subF_eq ?_; (first | assumption | ((refine Is.lit ?_); decide +kernel) | (refine Is.ofInt _ _)))); (first | exact Rk.subF_is _ _ | (refine Rk.subF_eq ?_; (first | assumption | ((refine Is.lit ?_); decide +kernel) | (refine Is.ofInt _ _)))); (try simp only [Rk.upd, List.set_cons_succ, List.set_cons_zero])) | ((with_reducible refine Rk.wpR_fquo Rk.good_bel (k := ?_) (X := ?_) (Y := ?_) (S := ?_) (T := ?_) ?_ ?_ ?_ ?_ ?_ ?_); rotate_left 5; (first | exact Rk.yes_none | exact Rk.yes_some rfl rfl); (simp only [Rk.slotS, List.getD_cons_succ, List.getD_cons_zero]; rfl); (simp only [Rk.slotS, List.getD_cons_succ, List.getD_cons_zero]; rfl); (first | exact Rk.subF_is _ _ | (refine Rk.subF_eq ?_; (first | assumption | ((refine Is.lit ?_); decide +kernel) | (refine Is.ofInt _ _)))); (first | exact Rk.subF_is _ _ | (refine Rk.subF_eq ?_; (first | assumption | ((refine Is.lit ?_); decide +kernel) | (refine Is.ofInt _ _)))); (try simp only [Rk.upd, List.set_cons_succ, List.set_cons_zero])) | ((with_reducible refine Rk.wpR_feq Rk.good_bel (k := ?_) (X := ?_) (Y := ?_) (S := ?_) (T := ?_) ?_ ?_ ?_ ?_ ?_ ?_); rotate_left 5; (first | exact Rk.yes_none | exact Rk.yes_some rfl rfl); (simp only [Rk.slotS, List.getD_cons_succ, List.getD_cons_zero]; rfl); (simp only [Rk.slotS, List.getD_cons_succ, List.getD_cons_zero]; rfl); (first | exact Rk.subF_is _ _ | (refine Rk.subF_eq ?_; (first | assumption | ((refine Is.lit ?_); decide +kernel) | (refine Is.ofInt _ _)))); (first | exact Rk.subF_is _ _ | (refine Rk.subF_eq ?_; (first | assumption | ((refine Is.lit ?_); decide +kernel) | (refine Is.ofInt _ _)))); (try simp only [Rk.upd, List.set_cons_succ, List.set_cons_zero])) | ((with_reducible refine Rk.wpR_fne Rk.good_bel (k := ?_) (X := ?_) (Y := ?_) (S := ?_) (T := ?_) ?_ ?_ ?_ ?_ ?_ ?_); rotate_left 5; (first | exact Rk.yes_none | exact Rk.yes_some rfl rfl); (simp only [Rk.slotS, List.getD_cons_succ, List.getD_cons_zero]; rfl); (simp only [Rk.slotS, List.getD_cons_succ, List.getD_cons_zero]; rfl); (first | exact Rk.subF_is _ _ | (refine Rk.subF_eq ?_; (first | assumption | ((refine Is.lit ?_); decide +kernel) | (refine Is.ofInt _ _)))); (first | exact Rk.subF_is _ _ | (refine Rk.subF_eq ?_; (first | assumption | ((refine Is.lit ?_); decide +kernel) | (refine Is.ofInt _ _)))); (try simp only [Rk.upd, List.set_cons_succ, List.set_cons_zero])) | ((with_reducible refine Rk.wpR_flt Rk.good_bel (k := ?_) (X := ?_) (Y := ?_) (S := ?_) (T := ?_) ?_ ?_ ?_ ?_ ?_ ?_); rotate_left 5; (first | exact Rk.yes_none | exact Rk.yes_some rfl rfl); (simp only [Rk.slotS, List.getD_cons_succ, List.getD_cons_zero]; rfl); (simp only [Rk.slotS, List.getD_cons_succ, List.getD_cons_zero]; rfl); (first | exact Rk.subF_is _ _ | (refine Rk.subF_eq ?_; (first | assumption | ((refine Is.lit ?_); decide +kernel) | (refine Is.ofInt _ _)))); (first | exact Rk.subF_is _ _ | (refine Rk.subF_eq ?_; (first | assumption | ((refine Is.lit ?_); decide +kernel) | (refine Is.ofInt _ _)))); (try simp only [Rk.upd, List.set_cons_succ, List.set_cons_zero])) | ((with_reducible refine Rk.wpR_fgt Rk.good_bel (k := ?_) (X := ?_) (Y := ?_) (S := ?_) (T := ?_) ?_ ?_ ?_ ?_ ?_ ?_); rotate_left 5; (first | exact Rk.yes_none | exact Rk.yes_some rfl rfl); (simp only [Rk.slotS, List.getD_cons_succ, List.getD_cons_zero]; rfl); (simp only [Rk.slotS, List.getD_cons_succ, List.getD_cons_zero]; rfl); (first | exact Rk.subF_is _ _ | (refine Rk.subF_eq ?_; (first | assumption | ((refine Is.lit ?_); decide +kernel) | (refine Is.ofInt _ _)))); (first | exact Rk.subF_is _ _ | (refine Rk.subF_eq ?_; (first | assumption | ((refine Is.lit ?_); decide +kernel) | (refine Is.ofInt _ _)))); (try simp only [Rk.upd, List.set_cons_succ, List.set_cons_zero])) | ((with_reducible refine Rk.wpR_fge Rk.good_bel (k := ?_) (X := ?_) (Y := ?_) (S := ?_) (T := ?_) ?_ ?_ ?_ ?_ ?_ ?_); rotate_left 5; (first | exact Rk.yes_none | exact Rk.yes_some rfl rfl); (simp only [Rk.slotS, List.getD_cons_succ, List.getD_cons_zero]; rfl); (simp only [Rk.slotS, List.getD_cons_succ, List.getD_cons_zero]; rfl); (first | exact Rk.subF_is _ _ | (refine Rk.subF_eq ?_; (first | assumption | ((refine Is.lit ?_); decide +kernel) | (refine Is.ofInt _ _)))); (first | exact Rk.subF_is _ _ | (refine Rk.subF_eq ?_; (first | assumption | ((refine Is.lit ?_); decide +kernel) | (refine Is.ofInt _ _)))); (try simp only [Rk.upd, List.set_cons_succ, List.set_cons_zero])) | ((with_reducible refine Rk.wpR_fle Rk.good_bel (k := ?_) (X := ?_) (Y := ?_) (S := ?_) (T := ?_) ?_ ?_ ?_ ?_ ?_ ?_); rotate_left 5; (first | exact Rk.yes_none | exact Rk.yes_some rfl rfl); (simp only [Rk.slotS, List.getD_cons_succ, List.getD_cons_zero]; rfl); (simp only [Rk.slotS, List.getD_cons_succ, List.getD_cons_zero]; rfl); (first | exact Rk.subF_is _ _ | (refine Rk.subF_eq ?_; (first | assumption | ((refine Is.lit ?_); decide +kernel) | (refine Is.ofInt _ _)))); (first | exact Rk.subF_is _ _ | (refine Rk.subF_eq ?_; (first | assumption | ((refine Is.lit ?_); decide +kernel) | (refine Is.ofInt _ _)))); (try simp only [Rk.upd, List.set_cons_succ, List.set_cons_zero])) | ((with_reducible refine Rk.wpR_indexAddr Rk.good_bel (v := ?_) (v' := ?_) (u := ?_) ?_ ?_ ?_ ?_ ?_); rotate_left 3; (first | exact Rk.yes_none | exact Rk.yes_some rfl rfl); (simp only [Rk.slotS, List.getD_cons_succ, List.getD_cons_zero]; rfl); (simp only [Rk.slotS, List.getD_cons_succ, List.getD_cons_zero]; rfl); (intro ρ w' hw hK1 hK2; go_simp; rfl); (try simp only [Rk.upd, List.set_cons_succ, List.set_cons_zero])) | ((with_reducible refine Rk.wpR_binOp Rk.good_bel (v := ?_) (v' := ?_) (u := ?_) ?_ ?_ ?_ ?_ ?_); rotate_left 3; (first | exact Rk.yes_none | exact Rk.yes_some rfl rfl); (simp only [Rk.slotS, List.getD_cons_succ, List.getD_cons_zero]; rfl); (simp only [Rk.slotS, List.getD_cons_succ, List.getD_cons_zero]; rfl); (intro ρ w' hw hK1 hK2; go_simp; rfl); (try simp only [Rk.upd, List.set_cons_succ, List.set_cons_zero])) | ((with_reducible refine Rk.wpR_load Rk.good_bel (v := ?_) (u := ?_) ?_ ?_ ?_ ?_); rotate_left 2; (first | exact Rk.yes_none | exact Rk.yes_some rfl rfl); (simp only [Rk.slotS, List.getD_cons_succ, List.getD_cons_zero]; rfl); (intro ρ w' hw hK1; obtain ⟨_, k0, k1, k2⟩ := HBox.bel hX1.out hw; have kk := frow_cell hA2.out hw hmlt; rw [← hXd'.out] at kk; have l2 := (hw.cell (p := ⟨w1.heap.size + 1, 2, none⟩) (by have := hs1.out; show w1.heap.size + 1 < _; omega)).trans hc2.out; go_simp; rfl); (try simp only [Rk.upd, List.set_cons_succ, List.set_cons_zero])) | ((with_reducible refine Rk.wpR_unOp Rk.good_bel (v := ?_) (u := ?_) ?_ ?_ ?_ ?_); rotate_left 2; (first | exact Rk.yes_none | exact Rk.yes_some rfl rfl); (simp only [Rk.slotS, List.getD_cons_succ, List.getD_cons_zero]; rfl); (intro ρ w' hw hK1; go_simp; rfl); (try simp only [Rk.upd, List.set_cons_succ, List.set_cons_zero])) | ((with_reducible refine Rk.wpR_convert Rk.good_bel (v := ?_) (u := ?_) ?_ ?_ ?_ ?_); rotate_left 2; (first | exact Rk.yes_none | exact Rk.yes_some rfl rfl); (simp only [Rk.slotS, List.getD_cons_succ, List.getD_cons_zero]; rfl); (intro ρ w' hw hK1; go_simp; rfl); (try simp only [Rk.upd, List.set_cons_succ, List.set_cons_zero])) | ((with_reducible refine Rk.wpR_field Rk.good_bel (v := ?_) (u := ?_) ?_ ?_ ?_ ?_); rotate_left 2; (first | exact Rk.yes_none | exact Rk.yes_some rfl rfl); (simp only [Rk.slotS, List.getD_cons_succ, List.getD_cons_zero]; rfl); (intro ρ w' hw hK1; go_simp; rfl); (try simp only [Rk.upd, List.set_cons_succ, List.set_cons_zero])) | ((with_reducible refine Rk.wpR_fieldAddr Rk.good_bel (v := ?_) (u := ?_) ?_ ?_ ?_ ?_); rotate_left 2; (first | exact Rk.yes_none | exact Rk.yes_some rfl rfl); (simp only [Rk.slotS, List.getD_cons_succ, List.getD_cons_zero]; rfl); (intro ρ w' hw hK1; go_simp; rfl); (try simp only [Rk.upd, List.set_cons_succ, List.set_cons_zero])) | ((with_reducible refine Rk.wpR_nilCheck Rk.good_bel (v := ?_) (u := ?_) ?_ ?_ ?_ ?_); rotate_left 2; (first | exact Rk.yes_none | exact Rk.yes_some rfl rfl); (simp only [Rk.slotS, List.getD_cons_succ, List.getD_cons_zero]; rfl); (intro ρ w' hw hK1; go_simp; rfl); (try simp only [Rk.upd, List.set_cons_succ, List.set_cons_zero])) | ((with_reducible refine Rk.wpR_builtin1 Rk.good_bel (v := ?_) (u := ?_) ?_ ?_ ?_ ?_); rotate_left 2; (first | exact Rk.yes_none | exact Rk.yes_some rfl rfl); (simp only [Rk.slotS, List.getD_cons_succ, List.getD_cons_zero]; rfl); (intro ρ w' hw hK1; go_simp; rfl); (try simp only [Rk.upd, List.set_cons_succ, List.set_cons_zero])) | ((with_reducible refine Rk.wpR_extract Rk.good_bel (v := ?_) (u := ?_) ?_ ?_ ?_ ?_); rotate_left 2; (first | exact Rk.yes_none | exact Rk.yes_some rfl rfl); (simp only [Rk.slotS, List.getD_cons_succ, List.getD_cons_zero]; rfl); (intro ρ w' hw hK1; go_simp; rfl); (try simp only [Rk.upd, List.set_cons_succ, List.set_cons_zero])))
        ((refine Rk.wpR_new1x (k := ?_) (b := ?_) (X := ?_) (E := 32) ?_ ?_ ?_ ?_ ?_); rotate_left 3; (first | exact Rk.yes_none | exact Rk.yes_some rfl rfl); (simp only [Rk.slotS, List.getD_cons_succ, List.getD_cons_zero]; rfl); assumption; (focus (intro ρ w' r h1; go_simp)); (try simp only [Rk.upd, List.set_cons_succ, List.set_cons_zero]))
        refine Rk.wpR_end ?_
        intro wK hwK
        repeat (first | refine Rk.all2_is1 ?_ | (refine Rk.all2_isF ?_; intro r0 hr0; clear hr0) | (refine Rk.all2_any ?_; rintro vK ⟨bN, vN, rfl, hbN, hcN, r, rfl, hr2⟩))
        refine Rk.all2_nil ?_
        have hXK := BelX.of (bs := none) hwK
        obtain ⟨bx1, hown1, hs2⟩ := hS'.out.keep (by omega) (by simp) wK hXK
        have hown1' := Lib.hid hown1
        have bx1' := Lib.hid bx1
        have hXK' := Lib.hid hXK
        clear hown1 bx1 hXK
        go_wp2_with (at_builtin; refine wpList_append_own _ rfl _ _ 22 rfl w1.heap.size 32 i0 _ 1 4 Try.underlying22 hi0 hz0 hz1 hz2 rfl (by omega) v k (ws.map (Value.float .f32)) rfl hown1'.out ⟨bN, 0, none⟩ 1 1 [.float .f32 r] rfl rfl ?c1 ?c2 ?c3 ?c4 ?c5 ?_)
        case c1 => exact World.news_of_block (cs := #[.float .f32 r]) (t := 32) (fr := (0, 0)) hcN
        case c2 => intro u hu; simp at hu; subst hu; rfl
        case c3 => unfold maxLen; omega
        case c4 => omega
        case c5 => have := hs2; omega
        intro v2 w2 hown2 hgrow _
        obtain ⟨g3, cap3, rfl⟩ := own_succ hown2
        have bx2 := grown_keep bx1'.out hs2 hgrow hS'.out.far
        have hc2b := box_c2 bx2
        have hc3b := cells_free bx2 2
        have hN := Lib.hid (hS'.out.next (by omega) (by decide) (fun _ _ _ _ _ => trivial) (by simp) hXK'.out trivial hr2 hown2 hgrow)
        clear bx2 hown2 hgrow
        go_wp2
        refine ⟨⟨k + 1, hlt'.out, by simp, Lib.hid ⟨_, _, hN.out⟩⟩, ?_⟩
        have := hlt'.out
        show a * b - (((k : Nat) : Int) + 1).toNat < a * b - ((k : Nat) : Int).toNat
        omega
      · have e1 : ¬ ((k : Int) < b * a) := by have := hcomm'.out; rw [← Int.natCast_mul]; omega
        obtain rfl : k = a * b := by omega
        have hc := hcomm'.out
        obtain ⟨g2, cap2, rfl, hO⟩ := mst_orow hS (by omega)
        have hY2 := HBox.bel hY.out hS.bel.bel
        obtain ⟨_, y0, y1, y2⟩ := hY2
        have hbw := hS.bel.bel
        have f0 : wr.frozen? ⟨w.heap.size + 1, 0, none⟩ = false := by rw [hbw.frozen (by have := hY.out.1; simpa using this)]; exact hG.out.1
        have f1 : wr.frozen? ⟨w.heap.size + 1, 1, none⟩ = false := by rw [hbw.frozen (by have := hY.out.1; simpa using this)]; exact hG.out.2.1
        have f2 : wr.frozen? ⟨w.heap.size + 1, 2, none⟩ = false := by rw [hbw.frozen (by have := hY.out.1; simpa using this)]; exact hG.out.2.2
        have c2 := hc2.out
        have hbw' := Lib.hid hbw
        have hO' := Lib.hid hO
        have hS' := Lib.hid hS
        clear hS hO hbw hM hc
        go_wp2_with fail
        refine bodyPost_ret (v := .tuple #[hillV b a (some ⟨g2, 0, none⟩) (a * b) cap2, .bool true]) (by simp [results, Try.results26, go_sem, y0, y1, y2]) rfl ?_
        rw [hR.out]
        refine ⟨some ⟨g2, 0, none⟩, cap2, ws, rfl, ?_, fun i hi => (hS'.out.is i hi).2, ?_⟩
        · refine (((hO'.out.setBelow (by have := hsz.out; simp; omega) _).setBelow (by have := hsz.out; simp; omega) _).setBelow (by have := hsz.out; simp; omega) _).mono (by have := hsz.out; omega) (by simp [World.setCell])
        · exact ((((((Bel.refl w).alloc _).alloc _).trans (hB'.out.trans hbw'.out)).setCell (by simp) _).setCell (by simp) _).setCell (by simp) _

end Go.Proofs.Ytobghfjkkkfecaa
