/-
  CONTRACTS: hills that slope.
-/
import Derived.Test.YtobghfjkkkfecaaH11
import Derived.Test.YtobghfjkkkfecaaN3
set_option linter.unusedSimpArgs false
set_option linter.unusedVariables false
namespace Go.Proofs.Ytobghfjkkkfecaa
open Go.RowKit Go.Fl

theorem bel_drew {w w' : World} {n : Nat} (h : Bel (w.drewN n) w') : Bel w w' := ((Bel.refl w).drewN n).trans h
/-- a cell's place, by its number -/
theorem cell_step {a b k : Nat} (ha1 : 1 ≤ a) (hk : k < b * a) (h256 : b * a ≤ 256) : ∃ x y : Nat, (k : Int) % (a : Int) = (x : Int) ∧ wrap64 ((k : Int) / (a : Int)) = (y : Int) ∧ IntKind.i64.wrap ((k : Int) / (a : Int)) = (y : Int) ∧ x = k % a ∧ y = k / a := by
  have h3 : k / a ≤ k := Nat.div_le_self _ _
  have h5 : ∀ q : Nat, q ≤ 256 → wrap64 (q : Int) = (q : Int) := fun q hq => by unfold wrap64; omega
  have h7 : ∀ q : Nat, q ≤ 256 → IntKind.i64.wrap (q : Int) = (q : Int) := fun q hq => IntWalk.i64_in _ (by omega)
  refine ⟨k % a, k / a, (Int.natCast_emod k a).symm, ?_, ?_, rfl, rfl⟩ <;> rw [← Int.natCast_ediv]
  · exact h5 _ (by omega)
  · exact h7 _ (by omega)
def slopeG (B E S : Nat) (x y : Int) : Nat := fop .add .f32 (fop .add .f32 B (fop .mul .f32 E (floatOfInt .f32 x))) (fop .mul .f32 S (floatOfInt .f32 y))
def slopeF (B E S a k : Nat) : Nat := slopeG B E S ((k % a : Nat) : Int) ((k / a : Nat) : Int)
def slopeR (W H : Int) (B E S : Nat) : HillR := if sideB W H && (fin32B B && (fin32B E && fin32B S)) then madeR W.toNat H.toNat (slopeF B E S W.toNat) else noR
theorem side_nat {W H : Int} (h : sideB W H = true) : ∃ a b : Nat, W = (a : Int) ∧ H = (b : Int) ∧ 1 ≤ a ∧ a ≤ 16 ∧ 1 ≤ b ∧ b ≤ 16 := by
  obtain ⟨⟨a1, a2⟩, a3, a4⟩ := sideB_iff.1 h
  obtain ⟨a, rfl⟩ := Int.eq_ofNat_of_zero_le (a := W) (by omega)
  obtain ⟨b, rfl⟩ := Int.eq_ofNat_of_zero_le (a := H) (by omega)
  exact ⟨a, b, rfl, rfl, by omega, by omega, by omega, by omega⟩
theorem slopeR_n (W H : Int) (B E S : Nat) : (slopeR W H B E S).n ≤ 1048576 := by
  unfold slopeR
  cases hv : sideB W H with
  | false => simp [noR]
  | true =>
    obtain ⟨a, b, rfl, rfl, h1, h2, h3, h4⟩ := side_nat hv
    split
    · simpa using madeR_n (by omega) (by omega)
    · simp [noR]
def MdRet (a b : Nat) (F : Nat → Nat) (w : World) (e : Ending) (w' : World) : Prop :=
  ∃ g cap ws, e = .returned (hillV a b (some ⟨g, 0, none⟩) (b * a) cap) ∧ ORow w.heap.size w'.heap.size w' (some ⟨g, 0, none⟩) (b * a) ws ∧ (∀ i, i < b * a → cn .f32 (ws.getD i 0) = F i) ∧ Bel w w'
set_option maxRecDepth 100000 in
set_option maxHeartbeats 4000000 in
theorem l02Slope_any (w : World) (a b : Nat) (ha1 : 1 ≤ a) (ha2 : a ≤ 16) (hb1 : 1 ≤ b) (hb2 : b ≤ 16) (x1 x2 x3 B E S : Nat) (hB1 : Is .f32 x1 B) (hE1 : Is .f32 x2 E) (hS1 : Is .f32 x3 S) :
    Calls Try.prog 59 #[.int .i64 (a : Int), .int .i64 (b : Int), .float .f32 x1, .float .f32 x2, .float .f32 x3] w (MdRet a b (slopeF B E S a) w) := by
  obtain ⟨i0, hi0, hz0, hz1, hz2⟩ := info_parts infoF32
  have hpos : 0 < b * a := Nat.mul_pos (by omega) (by omega)
  have h256 : b * a ≤ 256 := Nat.mul_le_mul hb2 ha2
  have hcomm : ((b * a : Nat) : Int) = (a : Int) * (b : Int) := by rw [Int.natCast_mul, Int.mul_comm]
  have hcomm' := Lib.hid hcomm
  have hI1 : (a : Int) * (b : Int) ≤ 256 ∧ 0 ≤ (a : Int) * (b : Int) := by omega
  obtain ⟨hI1, hI2⟩ := hI1
  have ea : ((a : Int) == 0) = false := by simp; omega
  have ha0 : ¬ a = 0 := by omega
  clear hcomm
  go_enter Try.func59, Try.ntmps59
  go_wp2
  go_loopw [12] (fun t wr => ∃ k : Nat, k ≤ b * a ∧ t = .int .i64 k ∧ Hid (MRel (w.alloc resO) (slopeF B E S a) a b (w.heap.size + 1 + 1) k wr)) (fun t _ => b * a - (intOf t).toNat)
  case atStart => exact ⟨0, Nat.zero_le _, rfl, Lib.hid (by have := mrel_start0 (w.alloc resO) (slopeF B E S a) a b (hb := w.heap.size + 1 + 1) (by simp); simpa using this)⟩
  case round =>
    obtain ⟨k, hk, rfl, hM⟩ := hrel
    obtain ⟨v, ws, hS⟩ := hM.out
    have hc2 := Lib.hid hS.c2
    by_cases hlt : k < b * a
    · have e1 : ((k : Int) < a * b) := by have := hcomm'.out; omega
      have hlt' := Lib.hid hlt
      have hs0 := hS.size
      have hs1 := Lib.hid hs0
      clear hs0
      have hS' := Lib.hid hS
      have hkb : k ≤ 256 := by omega
      obtain ⟨x, y, em, ed, ed2, hx, hy⟩ := cell_step ha1 hlt h256
      have eg := Lib.hid (show slopeG B E S x y = slopeF B E S a k by unfold slopeF; rw [hx, hy])
      clear hS hM hlt hx hy
      go_wp2_with ((with_reducible refine wpList_here ?_); (first | ((with_reducible refine wpList_feq (k := ?_) (bx := ?_) (by' := ?_) (X := ?_) (Y := ?_) ?_ ?_ ?_ ?_ ?_ ?_); rotate_left 5; (first | (with_reducible exact wanted_none) | ((with_reducible refine wanted_some ?_); rfl)); (rfl); (rfl); (first | assumption | ((refine Is.lit ?_); decide +kernel) | (refine Is.ofInt _ _)); (first | assumption | ((refine Is.lit ?_); decide +kernel) | (refine Is.ofInt _ _)); (try simp only [Act.put, List.setIfInBounds_toArray, List.set_cons_succ, List.set_cons_zero, World.drewN_drewN])) | ((with_reducible refine wpList_fne (k := ?_) (bx := ?_) (by' := ?_) (X := ?_) (Y := ?_) ?_ ?_ ?_ ?_ ?_ ?_); rotate_left 5; (first | (with_reducible exact wanted_none) | ((with_reducible refine wanted_some ?_); rfl)); (rfl); (rfl); (first | assumption | ((refine Is.lit ?_); decide +kernel) | (refine Is.ofInt _ _)); (first | assumption | ((refine Is.lit ?_); decide +kernel) | (refine Is.ofInt _ _)); (try simp only [Act.put, List.setIfInBounds_toArray, List.set_cons_succ, List.set_cons_zero, World.drewN_drewN])) | ((with_reducible refine wpList_flt (k := ?_) (bx := ?_) (by' := ?_) (X := ?_) (Y := ?_) ?_ ?_ ?_ ?_ ?_ ?_); rotate_left 5; (first | (with_reducible exact wanted_none) | ((with_reducible refine wanted_some ?_); rfl)); (rfl); (rfl); (first | assumption | ((refine Is.lit ?_); decide +kernel) | (refine Is.ofInt _ _)); (first | assumption | ((refine Is.lit ?_); decide +kernel) | (refine Is.ofInt _ _)); (try simp only [Act.put, List.setIfInBounds_toArray, List.set_cons_succ, List.set_cons_zero, World.drewN_drewN])) | ((with_reducible refine wpList_fle (k := ?_) (bx := ?_) (by' := ?_) (X := ?_) (Y := ?_) ?_ ?_ ?_ ?_ ?_ ?_); rotate_left 5; (first | (with_reducible exact wanted_none) | ((with_reducible refine wanted_some ?_); rfl)); (rfl); (rfl); (first | assumption | ((refine Is.lit ?_); decide +kernel) | (refine Is.ofInt _ _)); (first | assumption | ((refine Is.lit ?_); decide +kernel) | (refine Is.ofInt _ _)); (try simp only [Act.put, List.setIfInBounds_toArray, List.set_cons_succ, List.set_cons_zero, World.drewN_drewN])) | ((with_reducible refine wpList_fgt (k := ?_) (bx := ?_) (by' := ?_) (X := ?_) (Y := ?_) ?_ ?_ ?_ ?_ ?_ ?_); rotate_left 5; (first | (with_reducible exact wanted_none) | ((with_reducible refine wanted_some ?_); rfl)); (rfl); (rfl); (first | assumption | ((refine Is.lit ?_); decide +kernel) | (refine Is.ofInt _ _)); (first | assumption | ((refine Is.lit ?_); decide +kernel) | (refine Is.ofInt _ _)); (try simp only [Act.put, List.setIfInBounds_toArray, List.set_cons_succ, List.set_cons_zero, World.drewN_drewN])) | ((with_reducible refine wpList_fge (k := ?_) (bx := ?_) (by' := ?_) (X := ?_) (Y := ?_) ?_ ?_ ?_ ?_ ?_ ?_); rotate_left 5; (first | (with_reducible exact wanted_none) | ((with_reducible refine wanted_some ?_); rfl)); (rfl); (rfl); (first | assumption | ((refine Is.lit ?_); decide +kernel) | (refine Is.ofInt _ _)); (first | assumption | ((refine Is.lit ?_); decide +kernel) | (refine Is.ofInt _ _)); (try simp only [Act.put, List.setIfInBounds_toArray, List.set_cons_succ, List.set_cons_zero, World.drewN_drewN])) | ((with_reducible refine wpList_fadd (k := ?_) (bx := ?_) (by' := ?_) (X := ?_) (Y := ?_) ?_ ?_ ?_ ?_ ?_ ?_); rotate_left 5; (first | (with_reducible exact wanted_none) | ((with_reducible refine wanted_some ?_); rfl)); (rfl); (rfl); (first | assumption | ((refine Is.lit ?_); decide +kernel) | (refine Is.ofInt _ _)); (first | assumption | ((refine Is.lit ?_); decide +kernel) | (refine Is.ofInt _ _)); (intro r nd hr); (try simp only [Act.put, List.setIfInBounds_toArray, List.set_cons_succ, List.set_cons_zero, World.drewN_drewN])) | ((with_reducible refine wpList_fsub (k := ?_) (bx := ?_) (by' := ?_) (X := ?_) (Y := ?_) ?_ ?_ ?_ ?_ ?_ ?_); rotate_left 5; (first | (with_reducible exact wanted_none) | ((with_reducible refine wanted_some ?_); rfl)); (rfl); (rfl); (first | assumption | ((refine Is.lit ?_); decide +kernel) | (refine Is.ofInt _ _)); (first | assumption | ((refine Is.lit ?_); decide +kernel) | (refine Is.ofInt _ _)); (intro r nd hr); (try simp only [Act.put, List.setIfInBounds_toArray, List.set_cons_succ, List.set_cons_zero, World.drewN_drewN])) | ((with_reducible refine wpList_fmul (k := ?_) (bx := ?_) (by' := ?_) (X := ?_) (Y := ?_) ?_ ?_ ?_ ?_ ?_ ?_); rotate_left 5; (first | (with_reducible exact wanted_none) | ((with_reducible refine wanted_some ?_); rfl)); (rfl); (rfl); (first | assumption | ((refine Is.lit ?_); decide +kernel) | (refine Is.ofInt _ _)); (first | assumption | ((refine Is.lit ?_); decide +kernel) | (refine Is.ofInt _ _)); (intro r nd hr); (try simp only [Act.put, List.setIfInBounds_toArray, List.set_cons_succ, List.set_cons_zero, World.drewN_drewN])) | ((with_reducible refine wpList_fquo (k := ?_) (bx := ?_) (by' := ?_) (X := ?_) (Y := ?_) ?_ ?_ ?_ ?_ ?_ ?_); rotate_left 5; (first | (with_reducible exact wanted_none) | ((with_reducible refine wanted_some ?_); rfl)); (rfl); (rfl); (first | assumption | ((refine Is.lit ?_); decide +kernel) | (refine Is.ofInt _ _)); (first | assumption | ((refine Is.lit ?_); decide +kernel) | (refine Is.ofInt _ _)); (intro r nd hr); (try simp only [Act.put, List.setIfInBounds_toArray, List.set_cons_succ, List.set_cons_zero, World.drewN_drewN]))))
      (refine Rk.region_K (Le := Bel) [0, 1, 2, 3, 4, 5, 6, 7, 8, 9, 10] [11, 12, 13] Rk.good_bel (by kernel_rfl) (by kernel_rfl) (by kernel_rfl) (by kernel_rfl) ?_; (try simp only [Rk.pick, List.getElem?_cons_succ, List.getElem?_cons_zero, Option.toList_some, List.cons_append, List.nil_append, List.map_cons, List.map_nil]))
      repeat (first | ((with_reducible refine Rk.wpR_move Rk.good_bel (S := ?_) ?_ ?_ ?_ ?_); (first | exact Rk.yes_none | exact Rk.yes_some rfl rfl); rotate_left 2; (simp only [Rk.slotS, List.getD_cons_succ, List.getD_cons_zero]; rfl); rotate_left 1; (first | exact Rk.mon_is1 _ | exact Rk.mon_isF _ _ | assumption); (try simp only [Rk.upd, List.set_cons_succ, List.set_cons_zero])) | ((with_reducible refine Rk.wpR_assign Rk.good_bel (S := ?_) ?_ ?_ ?_ ?_); (first | exact Rk.yes_none | exact Rk.yes_some rfl rfl); rotate_left 2; (simp only [Rk.slotS, List.getD_cons_succ, List.getD_cons_zero]; rfl); rotate_left 1; (first | exact Rk.mon_is1 _ | exact Rk.mon_isF _ _ | assumption); (try simp only [Rk.upd, List.set_cons_succ, List.set_cons_zero])) | ((with_reducible refine Rk.wpR_skip (d := ?_) (c := ?_) ?_ ?_ ?_ ?_); rotate_left 2; rfl; rfl; rfl; (try simp only [Rk.upd, List.set_cons_succ, List.set_cons_zero])) | ((with_reducible refine Rk.wpR_pickT Rk.good_bel (S := ?_) ?_ ?_ ?_ ?_ ?_); (first | exact Rk.yes_none | exact Rk.yes_some rfl rfl); rotate_left 2; rfl; (simp only [Rk.slotS, List.getD_cons_succ, List.getD_cons_zero]; rfl); rotate_left 1; (first | exact Rk.mon_is1 _ | exact Rk.mon_isF _ _ | assumption); (try simp only [Rk.upd, List.set_cons_succ, List.set_cons_zero])) | ((with_reducible refine Rk.wpR_pickF Rk.good_bel (S := ?_) ?_ ?_ ?_ ?_ ?_); (first | exact Rk.yes_none | exact Rk.yes_some rfl rfl); rotate_left 2; rfl; (simp only [Rk.slotS, List.getD_cons_succ, List.getD_cons_zero]; rfl); rotate_left 1; (first | exact Rk.mon_is1 _ | exact Rk.mon_isF _ _ | assumption); (try simp only [Rk.upd, List.set_cons_succ, List.set_cons_zero])) | ((with_reducible refine Rk.wpR_widen Rk.good_bel Try.underlying32 Try.underlying56 (X := ?_) (S := ?_) ?_ ?_ ?_ ?_); rotate_left 2; (first | exact Rk.yes_none | exact Rk.yes_some rfl rfl); (simp only [Rk.slotS, List.getD_cons_succ, List.getD_cons_zero]; rfl); (first | exact Rk.subF_is _ _ | (refine Rk.subF_eq ?_; (first | assumption | ((refine Is.lit ?_); decide +kernel) | (refine Is.ofInt _ _)))); (try simp only [Rk.upd, List.set_cons_succ, List.set_cons_zero])) | ((with_reducible refine Rk.wpR_fadd Rk.good_bel (k := ?_) (X := ?_) (Y := ?_) (S := ?_) (T := ?_) ?_ ?_ ?_ ?_ ?_ ?_); rotate_left 5; (first | exact Rk.yes_none | exact Rk.yes_some rfl rfl); (simp only [Rk.slotS, List.getD_cons_succ, List.getD_cons_zero]; rfl); (simp only [Rk.slotS, List.getD_cons_succ, List.getD_cons_zero]; rfl); (first | exact Rk.subF_is _ _ | (refine Rk.subF_eq ?_; (first | assumption | ((refine Is.lit ?_); decide +kernel) | (refine Is.ofInt _ _)))); (first | exact Rk.subF_is _ _ | (refine Rk.subF_eq ?_; (first | assumption | ((refine Is.lit ?_); decide +kernel) | (refine Is.ofInt _ _)))); (try simp only [Rk.upd, List.set_cons_succ, List.set_cons_zero])) | ((with_reducible refine Rk.wpR_fsub Rk.good_bel (k := ?_) (X := ?_) (Y := ?_) (S := ?_) (T := ?_) ?_ ?_ ?_ ?_ ?_ ?_); rotate_left 5; (first | exact Rk.yes_none | exact Rk.yes_some rfl rfl); (simp only [Rk.slotS, List.getD_cons_succ, List.getD_cons_zero]; rfl); (simp only [Rk.slotS, List.getD_cons_succ, List.getD_cons_zero]; rfl); (first | exact Rk.subF_is _ _ | (refine Rk.subF_eq ?_; (first | assumption | ((refine Is.lit ?_); decide +kernel) | (refine Is.ofInt _ _)))); (first | exact Rk.subF_is _ _ | (refine Rk.subF_eq ?_; (first | assumption | ((refine Is.lit ?_); decide +kernel) | (refine Is.ofInt _ _)))); (try simp only [Rk.upd, List.set_cons_succ, List.set_cons_zero])) | ((with_reducible refine Rk.wpR_fmul Rk.good_bel (k := ?_) (X := ?_) (Y := ?_) (S := ?_) (T := ?_) ?_ ?_ ?_ ?_ ?_ ?_); rotate_left 5; (first | exact Rk.yes_none | exact Rk.yes_some rfl rfl); (simp only [Rk.slotS, List.getD_cons_succ, List.getD_cons_zero]; rfl); (simp only [Rk.slotS, List.getD_cons_succ, List.getD_cons_zero]; rfl); (first | exact Rk.subF_is _ _ | (refine Rk.subF_eq ?_; (first | assumption | ((refine Is.lit ?_); decide +kernel) | (refine Is.ofInt _ _)))); (first | exact Rk.subF_is _ _ | (refine Rk.subF_eq ?_; (first | assumption | ((refine Is.lit ?_); decide +kernel) | (refine Is.ofInt _ _)))); (try simp only [Rk.upd, List.set_cons_succ, List.set_cons_zero])) | ((with_reducible refine Rk.wpR_fquo Rk.good_bel (k := ?_) (X := ?_) (Y := ?_) (S := ?_) (T := ?_) ?_ ?_ ?_ ?_ ?_ ?_); rotate_left 5; (first | exact Rk.yes_none | exact Rk.yes_some rfl rfl); (simp only [Rk.slotS, List.getD_cons_succ, List.getD_cons_zero]; rfl); (simp only [Rk.slotS, List.getD_cons_succ, List.getD_cons_zero]; rfl); (first | exact Rk.subF_is _ _ | (refine Rk.subF_eq ?_; (first | assumption | ((refine Is.lit ?_); decide +kernel) | (refine Is.ofInt _ _)))); (first | exact Rk.subF_is _ _ | (refine Rk.subF_eq ?_; (first | assumption | ((refine Is.lit ?_); decide +kernel) | (refine Is.ofInt _ _)))); (try simp only [Rk.upd, List.set_cons_succ, List.set_cons_zero])) | ((with_reducible refine Rk.wpR_feq Rk.good_bel (k := ?_) (X := ?_) (Y := ?_) (S := ?_) (T := ?_) ?_ ?_ ?_ ?_ ?_ ?_); rotate_left 5; (first | exact Rk.yes_none | exact Rk.yes_some rfl rfl); (simp only [Rk.slotS, List.getD_cons_succ, List.getD_cons_zero]; rfl); (simp only [Rk.slotS, List.getD_cons_succ, List.getD_cons_zero]; rfl); (first | exact Rk.subF_is _ _ | (refine Rk.subF_eq ?_; (first | assumption | ((refine Is.lit ?_); decide +kernel) | (refine Is.ofInt _ _)))); (first | exact Rk.subF_is _ _ | (refine Rk.subF_eq ?_; (first | assumption | ((refine Is.lit ?_); decide +kernel) | (refine Is.ofInt _ _)))); (try simp only [Rk.upd, List.set_cons_succ, List.set_cons_zero])) | ((with_reducible refine Rk.wpR_fne Rk.good_bel (k := ?_) (X := ?_) (Y := ?_) (S := ?_) (T := ?_) ?_ ?_ ?_ ?_ ?_ ?_); rotate_left 5; (first | exact Rk.yes_none | exact Rk.yes_some rfl rfl); (simp only [Rk.slotS, List.getD_cons_succ, List.getD_cons_zero]; rfl); (simp only [Rk.slotS, List.getD_cons_succ, List.getD_cons_zero]; rfl); (first | exact Rk.subF_is _ _ | (refine Rk.subF_eq ?_; (first | assumption | ((refine Is.lit ?_); decide +kernel) | (refine Is.ofInt _ _)))); (first | exact Rk.subF_is _ _ | (refine Rk.subF_eq ?_; (first | assumption | ((refine Is.lit ?_); decide +kernel) | (refine Is.ofInt _ _)))); (try simp only [Rk.upd, List.set_cons_succ, List.set_cons_zero])) | ((with_reducible refine Rk.wpR_flt Rk.good_bel (k := ?_) (X := ?_) (Y := ?_) (S := ?_) (T := ?_) ?_ ?_ ?_ ?_ ?_ ?_); rotate_left 5; (first | exact Rk.yes_none | exact Rk.yes_some rfl rfl); (simp only [Rk.slotS, List.getD_cons_succ, List.getD_cons_zero]; rfl); (simp only [Rk.slotS, List.getD_cons_succ, List.getD_cons_zero]; rfl); (first | exact Rk.subF_is _ _ | (refine Rk.subF_eq ?_; (first | assumption | ((refine Is.lit ?_); decide +kernel) | (refine Is.ofInt _ _)))); (first | exact Rk.subF_is _ _ | (refine Rk.subF_eq ?_; (first | assumption | ((refine Is.lit ?_); decide +kernel) | (refine Is.ofInt _ _)))); (try simp only [Rk.upd, List.set_cons_succ, List.set_cons_zero])) | ((with_reducible refine Rk.wpR_fgt Rk.good_bel (k := ?_) (X := ?_) (Y := ?_) (S := ?_) (T := ?_) ?_ ?_ ?_ ?_ ?_ ?_); rotate_left 5; (first | exact Rk.yes_none | exact Rk.yes_some rfl rfl); (simp only [Rk.slotS, List.getD_cons_succ, List.getD_cons_zero]; rfl); (simp only [Rk.slotS, List.getD_cons_succ, List.getD_cons_zero]; rfl); (first | exact Rk.subF_is _ _ | (refine Rk.subF_eq ?_; (first | assumption | ((refine Is.lit ?_); decide +kernel) | (refine Is.ofInt _ _)))); (first | exact Rk.subF_is _ _ | (refine Rk.subF_eq ?_; (first | assumption | ((refine Is.lit ?_); decide +kernel) | (refine Is.ofInt _ _)))); (try simp only [Rk.upd, List.set_cons_succ, List.set_cons_zero])) | ((with_reducible refine Rk.wpR_fge Rk.good_bel (k := ?_) (X := ?_) (Y := ?_) (S := ?_) (T := ?_) ?_ ?_ ?_ ?_ ?_ ?_); rotate_left 5; (first | exact Rk.yes_none | exact Rk.yes_some rfl rfl); (simp only [Rk.slotS, List.getD_cons_succ, List.getD_cons_zero]; rfl); (simp only [Rk.slotS, List.getD_cons_succ, List.getD_cons_zero]; rfl); (first | exact Rk.subF_is _ _ | (refine Rk.subF_eq ?_; (first | assumption | ((refine Is.lit ?_); decide +kernel) | (refine Is.ofInt _ _)))); (first | exact Rk.subF_is _ _ | (refine Rk.subF_eq ?_; (first | assumption | ((refine Is.lit ?_); decide +kernel) | (refine Is.ofInt _ _)))); (try simp only [Rk.upd, List.set_cons_succ, List.set_cons_zero])) | ((with_reducible refine Rk.wpR_fle Rk.good_bel (k := ?_) (X := ?_) (Y := ?_) (S := ?_) (T := ?_) ?_ ?_ ?_ ?_ ?_ ?_); rotate_left 5; (first | exact Rk.yes_none | exact Rk.yes_some rfl rfl); (simp only [Rk.slotS, List.getD_cons_succ, List.getD_cons_zero]; rfl); (simp only [Rk.slotS, List.getD_cons_succ, List.getD_cons_zero]; rfl); (first | exact Rk.subF_is _ _ | (refine Rk.subF_eq ?_; (first | assumption | ((refine Is.lit ?_); decide +kernel) | (refine Is.ofInt _ _)))); (first | exact Rk.subF_is _ _ | (refine Rk.subF_eq ?_; (first | assumption | ((refine Is.lit ?_); decide +kernel) | (refine Is.ofInt _ _)))); (try simp only [Rk.upd, List.set_cons_succ, List.set_cons_zero])) | ((with_reducible refine Rk.wpR_indexAddr Rk.good_bel (v := ?_) (v' := ?_) (u := ?_) ?_ ?_ ?_ ?_ ?_); rotate_left 3; (first | exact Rk.yes_none | exact Rk.yes_some rfl rfl); (simp only [Rk.slotS, List.getD_cons_succ, List.getD_cons_zero]; rfl); (simp only [Rk.slotS, List.getD_cons_succ, List.getD_cons_zero]; rfl); (intro ρ w' hw hK1 hK2; go_simp; rfl); (try simp only [Rk.upd, List.set_cons_succ, List.set_cons_zero])) | ((with_reducible refine Rk.wpR_binOp Rk.good_bel (v := ?_) (v' := ?_) (u := ?_) ?_ ?_ ?_ ?_ ?_); rotate_left 3; (first | exact Rk.yes_none | exact Rk.yes_some rfl rfl); (simp only [Rk.slotS, List.getD_cons_succ, List.getD_cons_zero]; rfl); (simp only [Rk.slotS, List.getD_cons_succ, List.getD_cons_zero]; rfl); (intro ρ w' hw hK1 hK2; go_simp; rfl); (try simp only [Rk.upd, List.set_cons_succ, List.set_cons_zero])) | ((with_reducible refine Rk.wpR_load Rk.good_bel (v := ?_) (u := ?_) ?_ ?_ ?_ ?_); rotate_left 2; (first | exact Rk.yes_none | exact Rk.yes_some rfl rfl); (simp only [Rk.slotS, List.getD_cons_succ, List.getD_cons_zero]; rfl); (intro ρ w' hw hK1; have hw2 := bel_drew hw; have l2 := (hw2.cell (p := ⟨w.heap.size + 1 + 1, 2, none⟩) (by have := hs1.out; show w.heap.size + 1 + 1 < _; omega)).trans hc2.out; go_simp; rfl); (try simp only [Rk.upd, List.set_cons_succ, List.set_cons_zero])) | ((with_reducible refine Rk.wpR_unOp Rk.good_bel (v := ?_) (u := ?_) ?_ ?_ ?_ ?_); rotate_left 2; (first | exact Rk.yes_none | exact Rk.yes_some rfl rfl); (simp only [Rk.slotS, List.getD_cons_succ, List.getD_cons_zero]; rfl); (intro ρ w' hw hK1; go_simp; rfl); (try simp only [Rk.upd, List.set_cons_succ, List.set_cons_zero])) | ((with_reducible refine Rk.wpR_convert Rk.good_bel (v := ?_) (u := ?_) ?_ ?_ ?_ ?_); rotate_left 2; (first | exact Rk.yes_none | exact Rk.yes_some rfl rfl); (simp only [Rk.slotS, List.getD_cons_succ, List.getD_cons_zero]; rfl); (intro ρ w' hw hK1; go_simp; rfl); (try simp only [Rk.upd, List.set_cons_succ, List.set_cons_zero])) | ((with_reducible refine Rk.wpR_field Rk.good_bel (v := ?_) (u := ?_) ?_ ?_ ?_ ?_); rotate_left 2; (first | exact Rk.yes_none | exact Rk.yes_some rfl rfl); (simp only [Rk.slotS, List.getD_cons_succ, List.getD_cons_zero]; rfl); (intro ρ w' hw hK1; go_simp; rfl); (try simp only [Rk.upd, List.set_cons_succ, List.set_cons_zero])) | ((with_reducible refine Rk.wpR_fieldAddr Rk.good_bel (v := ?_) (u := ?_) ?_ ?_ ?_ ?_); rotate_left 2; (first | exact Rk.yes_none | exact Rk.yes_some rfl rfl); (simp only [Rk.slotS, List.getD_cons_succ, List.getD_cons_zero]; rfl); (intro ρ w' hw hK1; go_simp; rfl); (try simp only [Rk.upd, List.set_cons_succ, List.set_cons_zero])) | ((with_reducible refine Rk.wpR_nilCheck Rk.good_bel (v := ?_) (u := ?_) ?_ ?_ ?_ ?_); rotate_left 2; (first | exact Rk.yes_none | exact Rk.yes_some rfl rfl); (simp only [Rk.slotS, List.getD_cons_succ, List.getD_cons_zero]; rfl); (intro ρ w' hw hK1; go_simp; rfl); (try simp only [Rk.upd, List.set_cons_succ, List.set_cons_zero])) | ((with_reducible refine Rk.wpR_builtin1 Rk.good_bel (v := ?_) (u := ?_) ?_ ?_ ?_ ?_); rotate_left 2; (first | exact Rk.yes_none | exact Rk.yes_some rfl rfl); (simp only [Rk.slotS, List.getD_cons_succ, List.getD_cons_zero]; rfl); (intro ρ w' hw hK1; go_simp; rfl); (try simp only [Rk.upd, List.set_cons_succ, List.set_cons_zero])) | ((with_reducible refine Rk.wpR_extract Rk.good_bel (v := ?_) (u := ?_) ?_ ?_ ?_ ?_); rotate_left 2; (first | exact Rk.yes_none | exact Rk.yes_some rfl rfl); (simp only [Rk.slotS, List.getD_cons_succ, List.getD_cons_zero]; rfl); (intro ρ w' hw hK1; go_simp; rfl); (try simp only [Rk.upd, List.set_cons_succ, List.set_cons_zero])))
      ((refine Rk.wpR_new1 (k := ?_) (X := ?_) (E := 32) ?_ ?_ ?_ ?_); rotate_left 2; (first | exact Rk.yes_none | exact Rk.yes_some rfl rfl); (simp only [Rk.slotS, List.getD_cons_succ, List.getD_cons_zero]; rfl); (focus (intro ρ w' r h1; go_simp)); (try simp only [Rk.upd, List.set_cons_succ, List.set_cons_zero]))
      refine Rk.wpR_end ?_
      intro wK hwK0
      have hwK := bel_drew hwK0
      clear hwK0
      repeat (first | refine Rk.all2_is1 ?_ | (refine Rk.all2_isF ?_; intro r0 hr0; clear hr0) | (refine Rk.all2_any ?_; rintro vK ⟨bN, vN, rfl, hbN, hcN, r5, rfl, hr2⟩))
      refine Rk.all2_nil ?_
      have hXK := BelX.of (bs := none) hwK
      obtain ⟨bx1, hown1, hs2⟩ := hS'.out.keep (by simp) (by simp) wK hXK
      have hown1' := Lib.hid hown1
      have bx1' := Lib.hid bx1
      have hXK' := Lib.hid hXK
      clear hown1 bx1 hXK
      go_wp2_with (at_builtin; refine wpList_append_own _ rfl _ _ 22 rfl (w.alloc resO).heap.size 32 i0 _ 1 4 Try.underlying22 hi0 hz0 hz1 hz2 rfl (by omega) v k (ws.map (Value.float .f32)) rfl hown1'.out ⟨bN, 0, none⟩ 1 1 [.float .f32 r5] rfl rfl ?c1 ?c2 ?c3 ?c4 ?c5 ?_)
      case c1 => exact World.news_of_block (cs := #[.float .f32 r5]) (t := 32) (fr := (0, 0)) hcN
      case c2 => intro u hu; simp at hu; subst hu; rfl
      case c3 => unfold maxLen; omega
      case c4 => omega
      case c5 => have := hs2; simp; omega
      intro v2 w2 hown2 hgrow _
      obtain ⟨g3, cap3, rfl⟩ := own_succ hown2
      rw [show w.heap.size + 1 = (w.alloc resO).heap.size from by simp] at hown2
      have bx2 := grown_keep bx1'.out hs2 hgrow hS'.out.far
      have hc2b := box_c2 bx2
      have hc3b := cells_free bx2 2
      have hN := Lib.hid (hS'.out.next (by simp) (by decide) (fun _ _ _ _ _ => trivial) (by simp) hXK'.out trivial (by rw [← eg.out]; exact hr2) hown2 hgrow)
      clear bx2 hown2 hgrow
      go_wp2
      refine ⟨⟨k + 1, hlt'.out, by simp, Lib.hid ⟨_, _, hN.out⟩⟩, ?_⟩
      have := hlt'.out
      show b * a - (((k : Nat) : Int) + 1).toNat < b * a - ((k : Nat) : Int).toNat
      omega
    · have e1 : ¬ ((k : Int) < a * b) := by have := hcomm'.out; omega
      obtain rfl : k = b * a := by omega
      obtain ⟨g2, cap2, rfl, hO⟩ := mst_orow hS (by omega)
      have hbw := hS.bel.bel
      obtain ⟨y0, y1, y2, f0, f1, f2⟩ := rbox_facts ((rbox_at w w.heap.size rfl).bel hbw)
      have c0 := hS.c0
      have c1 := hS.c1
      have c2 := hc2.out
      have hbw' := Lib.hid (((Bel.refl w).alloc resO).trans hbw)
      have hO' := Lib.hid (hO.mono (show w.heap.size + 1 ≤ (w.alloc resO).heap.size from by simp) (Nat.le_refl _))
      have hS' := Lib.hid hS
      clear hS hO hbw hM
      go_wp2_with fail
      refine bodyPost_ret (v := hillV a b (some ⟨g2, 0, none⟩) (b * a) cap2) (by simp [results, Try.results59, go_sem, y0, y1, y2]) rfl ?_
      refine ⟨g2, cap2, ws, rfl, ?_, fun i hi => (hS'.out.is i hi).2, ?_⟩
      · refine (((hO'.out.setBelow (by simp) _).setBelow (by simp) _).setBelow (by simp) _).mono (by omega) (by simp [World.setCell])
      · exact ((hbw'.out.setCell (by simp) _).setCell (by simp) _).setCell (by simp) _
-- CUT
theorem iSlopeHow (w0 : World) (c1 c2 c3 : Nat) (a b : Nat) (ha1 : 1 ≤ a) (ha2 : a ≤ 16) (hb1 : 1 ≤ b) (hb2 : b ≤ 16) (x1 x2 x3 B E S : Nat) (hB1 : Is .f32 x1 B) (hE1 : Is .f32 x2 E) (hS1 : Is .f32 x3 S)
    (h1 : FBox w0 c1 x1) (h2 : FBox w0 c2 x2) (h3 : FBox w0 c3 x3) :
    HowGives 61 #[.pointer (some ⟨c1, 0, none⟩), .pointer (some ⟨c2, 0, none⟩), .pointer (some ⟨c3, 0, none⟩)] a w0 (slopeF B E S a) (b * a) := by
  intro x y w hx hk hB
  have g1 := (h1.bel hB).2
  have g2 := (h2.bel hB).2
  have g3 := (h3.bel hB).2
  obtain ⟨e1, e2⟩ := mod_cell (y := y) hx
  have eg := Lib.hid (show slopeG B E S x y = slopeF B E S a (y * a + x) by unfold slopeF; rw [e1, e2])
  clear h1 h2 h3 hB e1 e2
  go_enter Try.func61, Try.ntmps61
  go_wp2_with ((with_reducible refine wpList_here ?_); (first | ((with_reducible refine wpList_feq (k := ?_) (bx := ?_) (by' := ?_) (X := ?_) (Y := ?_) ?_ ?_ ?_ ?_ ?_ ?_); rotate_left 5; (first | (with_reducible exact wanted_none) | ((with_reducible refine wanted_some ?_); rfl)); (rfl); (rfl); (first | assumption | ((refine Is.lit ?_); decide +kernel) | (refine Is.ofInt _ _)); (first | assumption | ((refine Is.lit ?_); decide +kernel) | (refine Is.ofInt _ _)); (try simp only [Act.put, List.setIfInBounds_toArray, List.set_cons_succ, List.set_cons_zero, World.drewN_drewN])) | ((with_reducible refine wpList_fne (k := ?_) (bx := ?_) (by' := ?_) (X := ?_) (Y := ?_) ?_ ?_ ?_ ?_ ?_ ?_); rotate_left 5; (first | (with_reducible exact wanted_none) | ((with_reducible refine wanted_some ?_); rfl)); (rfl); (rfl); (first | assumption | ((refine Is.lit ?_); decide +kernel) | (refine Is.ofInt _ _)); (first | assumption | ((refine Is.lit ?_); decide +kernel) | (refine Is.ofInt _ _)); (try simp only [Act.put, List.setIfInBounds_toArray, List.set_cons_succ, List.set_cons_zero, World.drewN_drewN])) | ((with_reducible refine wpList_flt (k := ?_) (bx := ?_) (by' := ?_) (X := ?_) (Y := ?_) ?_ ?_ ?_ ?_ ?_ ?_); rotate_left 5; (first | (with_reducible exact wanted_none) | ((with_reducible refine wanted_some ?_); rfl)); (rfl); (rfl); (first | assumption | ((refine Is.lit ?_); decide +kernel) | (refine Is.ofInt _ _)); (first | assumption | ((refine Is.lit ?_); decide +kernel) | (refine Is.ofInt _ _)); (try simp only [Act.put, List.setIfInBounds_toArray, List.set_cons_succ, List.set_cons_zero, World.drewN_drewN])) | ((with_reducible refine wpList_fle (k := ?_) (bx := ?_) (by' := ?_) (X := ?_) (Y := ?_) ?_ ?_ ?_ ?_ ?_ ?_); rotate_left 5; (first | (with_reducible exact wanted_none) | ((with_reducible refine wanted_some ?_); rfl)); (rfl); (rfl); (first | assumption | ((refine Is.lit ?_); decide +kernel) | (refine Is.ofInt _ _)); (first | assumption | ((refine Is.lit ?_); decide +kernel) | (refine Is.ofInt _ _)); (try simp only [Act.put, List.setIfInBounds_toArray, List.set_cons_succ, List.set_cons_zero, World.drewN_drewN])) | ((with_reducible refine wpList_fgt (k := ?_) (bx := ?_) (by' := ?_) (X := ?_) (Y := ?_) ?_ ?_ ?_ ?_ ?_ ?_); rotate_left 5; (first | (with_reducible exact wanted_none) | ((with_reducible refine wanted_some ?_); rfl)); (rfl); (rfl); (first | assumption | ((refine Is.lit ?_); decide +kernel) | (refine Is.ofInt _ _)); (first | assumption | ((refine Is.lit ?_); decide +kernel) | (refine Is.ofInt _ _)); (try simp only [Act.put, List.setIfInBounds_toArray, List.set_cons_succ, List.set_cons_zero, World.drewN_drewN])) | ((with_reducible refine wpList_fge (k := ?_) (bx := ?_) (by' := ?_) (X := ?_) (Y := ?_) ?_ ?_ ?_ ?_ ?_ ?_); rotate_left 5; (first | (with_reducible exact wanted_none) | ((with_reducible refine wanted_some ?_); rfl)); (rfl); (rfl); (first | assumption | ((refine Is.lit ?_); decide +kernel) | (refine Is.ofInt _ _)); (first | assumption | ((refine Is.lit ?_); decide +kernel) | (refine Is.ofInt _ _)); (try simp only [Act.put, List.setIfInBounds_toArray, List.set_cons_succ, List.set_cons_zero, World.drewN_drewN])) | ((with_reducible refine wpList_fadd (k := ?_) (bx := ?_) (by' := ?_) (X := ?_) (Y := ?_) ?_ ?_ ?_ ?_ ?_ ?_); rotate_left 5; (first | (with_reducible exact wanted_none) | ((with_reducible refine wanted_some ?_); rfl)); (rfl); (rfl); (first | assumption | ((refine Is.lit ?_); decide +kernel) | (refine Is.ofInt _ _)); (first | assumption | ((refine Is.lit ?_); decide +kernel) | (refine Is.ofInt _ _)); (intro r nd hr); (try simp only [Act.put, List.setIfInBounds_toArray, List.set_cons_succ, List.set_cons_zero, World.drewN_drewN])) | ((with_reducible refine wpList_fsub (k := ?_) (bx := ?_) (by' := ?_) (X := ?_) (Y := ?_) ?_ ?_ ?_ ?_ ?_ ?_); rotate_left 5; (first | (with_reducible exact wanted_none) | ((with_reducible refine wanted_some ?_); rfl)); (rfl); (rfl); (first | assumption | ((refine Is.lit ?_); decide +kernel) | (refine Is.ofInt _ _)); (first | assumption | ((refine Is.lit ?_); decide +kernel) | (refine Is.ofInt _ _)); (intro r nd hr); (try simp only [Act.put, List.setIfInBounds_toArray, List.set_cons_succ, List.set_cons_zero, World.drewN_drewN])) | ((with_reducible refine wpList_fmul (k := ?_) (bx := ?_) (by' := ?_) (X := ?_) (Y := ?_) ?_ ?_ ?_ ?_ ?_ ?_); rotate_left 5; (first | (with_reducible exact wanted_none) | ((with_reducible refine wanted_some ?_); rfl)); (rfl); (rfl); (first | assumption | ((refine Is.lit ?_); decide +kernel) | (refine Is.ofInt _ _)); (first | assumption | ((refine Is.lit ?_); decide +kernel) | (refine Is.ofInt _ _)); (intro r nd hr); (try simp only [Act.put, List.setIfInBounds_toArray, List.set_cons_succ, List.set_cons_zero, World.drewN_drewN])) | ((with_reducible refine wpList_fquo (k := ?_) (bx := ?_) (by' := ?_) (X := ?_) (Y := ?_) ?_ ?_ ?_ ?_ ?_ ?_); rotate_left 5; (first | (with_reducible exact wanted_none) | ((with_reducible refine wanted_some ?_); rfl)); (rfl); (rfl); (first | assumption | ((refine Is.lit ?_); decide +kernel) | (refine Is.ofInt _ _)); (first | assumption | ((refine Is.lit ?_); decide +kernel) | (refine Is.ofInt _ _)); (intro r nd hr); (try simp only [Act.put, List.setIfInBounds_toArray, List.set_cons_succ, List.set_cons_zero, World.drewN_drewN]))))
  go_ret
  exact ⟨_, rfl, (Bel.refl _).drewN _, _, rfl, by rw [← eg.out]; exact hr⟩
theorem frow3 {w : World} {b x1 x2 x3 : Nat} {t : TypeId} (hb : w.heap.size = b) (h1 : x1 < 4294967296) (h2 : x2 < 4294967296) (h3 : x3 < 4294967296) : FRow (w.alloc (.cells #[.float .f32 x1, .float .f32 x2, .float .f32 x3] t)) (some ⟨b, 0, none⟩) 3 [x1, x2, x3] := by
  subst hb
  refine ⟨rfl, fun _ => ⟨_, 0, rfl, by simp, fun i hi => ?_⟩, fun i hi => ?_⟩
  · match i, hi with
    | 0, _ => go_simp
    | 1, _ => go_simp
    | 2, _ => go_simp
  · match i, hi with
    | 0, _ => exact h1
    | 1, _ => exact h2
    | 2, _ => exact h3
set_option maxHeartbeats 4000000 in
theorem iSlopeHill_any (w : World) (W H : Int) (x1 x2 x3 B E S : Nat) (hB1 : Is .f32 x1 B) (hE1 : Is .f32 x2 E) (hS1 : Is .f32 x3 S) :
    Calls Try.prog 23 #[.int .i64 W, .int .i64 H, .float .f32 x1, .float .f32 x2, .float .f32 x3] w (HRet (slopeR W H B E S) w) := by
  have hf1 := Lib.hid (((fbox_at w w.heap.size x1 32 rfl).bel (((Bel.refl _).alloc (.cells #[.float .f32 x2] 32)).alloc (.cells #[.float .f32 x3] 32))).bel ((Bel.refl _).alloc resO))
  have hf2 := Lib.hid (((fbox_at (w.alloc (.cells #[.float .f32 x1] 32)) (w.heap.size + 1) x2 32 (by simp)).bel ((Bel.refl _).alloc (.cells #[.float .f32 x3] 32))).bel ((Bel.refl _).alloc resO))
  have hf3 := Lib.hid ((fbox_at ((w.alloc (.cells #[.float .f32 x1] 32)).alloc (.cells #[.float .f32 x2] 32)) (w.heap.size + 1 + 1) x3 32 (by simp)).bel ((Bel.refl _).alloc resO))
  have hY := Lib.hid (rbox_at (((w.alloc (.cells #[.float .f32 x1] 32)).alloc (.cells #[.float .f32 x2] 32)).alloc (.cells #[.float .f32 x3] 32)) (w.heap.size + 1 + 1 + 1) (by simp))
  have hW := Lib.hid (((((Bel.refl w).alloc (.cells #[.float .f32 x1] 32)).alloc (.cells #[.float .f32 x2] 32)).alloc (.cells #[.float .f32 x3] 32)).alloc resO)
  have hw32 := Lib.hid (show x1 < 4294967296 ∧ x2 < 4294967296 ∧ x3 < 4294967296 from by have a1 := hB1.1; have a2 := hE1.1; have a3 := hS1.1; rw [w32] at a1 a2 a3; exact ⟨a1, a2, a3⟩)
  have hfin := Lib.hid (show finB [x1, x2, x3] 3 = (fin32B B && (fin32B E && fin32B S)) by
    unfold finB allB allB allB allB; simp only [List.getD_cons_zero, List.getD_cons_succ, Bool.true_and]; rw [hB1.2, hE1.2, hS1.2, Bool.and_assoc])
  cases hv : sideB W H with
  | false =>
    have hR := Lib.hid (show slopeR W H B E S = noR by unfold slopeR; rw [hv]; rfl)
    replace hv := Lib.hid hv
    go_enter Try.func23, Try.ntmps23
    go_wp2_with fail
    refine (isSide_any W H _).mono ?_
    rintro e w1 ⟨rfl, rfl⟩
    rw [hv.out]
    obtain ⟨y0, y1, y2, f0, f1, f2⟩ := rbox_facts hY.out
    go_wp2_with fail
    refine bodyPost_ret (v := .tuple #[hillV 0 0 none 0 0, .bool false]) (by simp [results, Try.results23, go_sem, y0, y1, y2]) rfl (hret_no hR.out ?_)
    first | exact hW.out | exact ((hW.out.setCell (by first | omega | (simp; done) | (simp; omega)) _).setCell (by first | omega | (simp; done) | (simp; omega)) _).setCell (by first | omega | (simp; done) | (simp; omega)) _
  | true =>
    obtain ⟨a, b, rfl, rfl, ha1, ha2, hb1, hb2⟩ := side_nat hv
    have hR0 := Lib.hid (show slopeR a b B E S = if (fin32B B && (fin32B E && fin32B S)) then madeR a b (slopeF B E S a) else noR by unfold slopeR; rw [hv]; simp)
    replace hv := Lib.hid hv
    go_enter Try.func23, Try.ntmps23
    go_wp2_with fail
    refine (isSide_any a b _).mono ?_
    rintro e w1 ⟨rfl, rfl⟩
    rw [hv.out]
    have k1 := hf1.out.2
    have k2 := hf2.out.2
    have k3 := hf3.out.2
    go_wp2_with fail
    refine (areFinite_any _ _ _ _ [x1, x2, x3] (by exact frow3 (by simp) hw32.out.1 hw32.out.2.1 hw32.out.2.2) (by omega)).mono ?_
    rintro e w2 ⟨rfl, hD⟩
    rw [hfin.out]
    have hB2 := ((Bel.refl _).alloc (.cells #[.float .f32 x1, .float .f32 x2, .float .f32 x3] 32)).trans (dr_bel hD)
    replace hf1 := Lib.hid (hf1.out.bel hB2)
    replace hf2 := Lib.hid (hf2.out.bel hB2)
    replace hf3 := Lib.hid (hf3.out.bel hB2)
    replace hY := Lib.hid (hY.out.bel hB2)
    replace hW := Lib.hid (hW.out.trans hB2)
    clear hB2 hD k1 k2 k3
    cases hfy : (fin32B B && (fin32B E && fin32B S)) with
    | false =>
      have hR := Lib.hid (show slopeR a b B E S = noR by rw [hR0.out, hfy]; rfl)
      obtain ⟨y0, y1, y2, f0, f1, f2⟩ := rbox_facts hY.out
      clear hfy
      go_wp2_with fail
      refine bodyPost_ret (v := .tuple #[hillV 0 0 none 0 0, .bool false]) (by simp [results, Try.results23, go_sem, y0, y1, y2]) rfl (hret_no hR.out ?_)
      exact ((hW.out.setCell (by first | omega | (simp; done) | (simp; omega)) _).setCell (by first | omega | (simp; done) | (simp; omega)) _).setCell (by first | omega | (simp; done) | (simp; omega)) _
    | true =>
      have hR := Lib.hid (show slopeR a b B E S = madeR a b (slopeF B E S a) by rw [hR0.out, hfy]; rfl)
      clear hfy
      go_wp2_with fail
      refine (made_any w2 a b ha1 ha2 hb1 hb2 61 #[.pointer (some ⟨w.heap.size, 0, none⟩), .pointer (some ⟨w.heap.size + 1, 0, none⟩), .pointer (some ⟨w.heap.size + 1 + 1, 0, none⟩)] (Rg.enters Try.func61 (by kernel_rfl) (by kernel_rfl)) (slopeF B E S a) (iSlopeHow w2 _ _ _ a b ha1 ha2 hb1 hb2 x1 x2 x3 B E S hB1 hE1 hS1 hf1.out hf2.out hf3.out)).mono ?_
      rintro e w3 ⟨ao2, c2, ws, rfl, hO, hG, hB3⟩
      obtain ⟨y0, y1, y2, f0, f1, f2⟩ := rbox_facts (hY.out.bel hB3)
      have hO' := Lib.hid hO
      have hG' := Lib.hid hG
      have hB3' := Lib.hid hB3
      clear hO hG hB3
      rw [← hR.out] at *
      go_wp2_with fail
      refine bodyPost_ret (v := .tuple #[hillV (slopeR a b B E S).W (slopeR a b B E S).H ao2 (slopeR a b B E S).n c2, .bool (slopeR a b B E S).ok]) (by simp [results, Try.results23, go_sem, y0, y1, y2]) rfl ?_
      refine hret_set3 rfl rfl rfl rfl (hO'.out.mono hW.out.size (Nat.le_refl _)) (fun a ha => ?_) hG'.out (hW.out.trans hB3'.out) (by omega)
      have := (hO'.out.own a ha).1; have := hY.out.1; omega
set_option maxHeartbeats 4000000 in
theorem sSlopeHill_any (w : World) (W H : Int) (x1 x2 x3 B E S : Nat) (hB1 : Is .f32 x1 B) (hE1 : Is .f32 x2 E) (hS1 : Is .f32 x3 S) :
    Calls Try.prog 22 #[.int .i64 W, .int .i64 H, .float .f32 x1, .float .f32 x2, .float .f32 x3] w (HRet (slopeR W H B E S) w) := by
  have hY := Lib.hid (rbox_at w w.heap.size rfl)
  have hW := Lib.hid ((Bel.refl w).alloc resO)
  cases hv : sideB W H with
  | false =>
    have hR := Lib.hid (show slopeR W H B E S = noR by unfold slopeR; rw [hv]; rfl)
    replace hv := Lib.hid hv
    go_enter Try.func22, Try.ntmps22
    go_wp2_with fail
    refine (l02Sides_any W H _).mono ?_
    rintro e w1 ⟨rfl, rfl⟩
    rw [hv.out]
    obtain ⟨y0, y1, y2, f0, f1, f2⟩ := rbox_facts hY.out
    go_wp2_with fail
    refine bodyPost_ret (v := .tuple #[hillV 0 0 none 0 0, .bool false]) (by simp [results, Try.results22, go_sem, y0, y1, y2]) rfl (hret_no hR.out ?_)
    first | exact hW.out | exact ((hW.out.setCell (by first | omega | (simp; done) | (simp; omega)) _).setCell (by first | omega | (simp; done) | (simp; omega)) _).setCell (by first | omega | (simp; done) | (simp; omega)) _
  | true =>
    obtain ⟨a, b, rfl, rfl, ha1, ha2, hb1, hb2⟩ := side_nat hv
    have hR0 := Lib.hid (show slopeR a b B E S = if (fin32B B && (fin32B E && fin32B S)) then madeR a b (slopeF B E S a) else noR by unfold slopeR; rw [hv]; simp)
    replace hv := Lib.hid hv
    go_enter Try.func22, Try.ntmps22
    go_wp2_with fail
    refine (l02Sides_any a b _).mono ?_
    rintro e w1 ⟨rfl, rfl⟩
    rw [hv.out]
    go_wp2_with fail
    refine (l01Finite_any x1 B hB1 _).mono ?_
    rintro e w2 ⟨rfl, hD⟩
    have hB2 := dr_bel hD
    replace hY := Lib.hid (hY.out.bel hB2)
    replace hW := Lib.hid (hW.out.trans hB2)
    clear hB2 hD
    cases hf1 : fin32B B with
    | false =>
      have hR := Lib.hid (show slopeR a b B E S = noR by rw [hR0.out, hf1]; simp)
      obtain ⟨y0, y1, y2, f0, f1, f2⟩ := rbox_facts hY.out
      clear hf1
      go_wp2_with fail
      refine bodyPost_ret (v := .tuple #[hillV 0 0 none 0 0, .bool false]) (by simp [results, Try.results22, go_sem, y0, y1, y2]) rfl (hret_no hR.out ?_)
      exact ((hW.out.setCell (by first | omega | (simp; done) | (simp; omega)) _).setCell (by first | omega | (simp; done) | (simp; omega)) _).setCell (by first | omega | (simp; done) | (simp; omega)) _
    | true =>
      go_wp2_with fail
      refine (l01Finite_any x2 E hE1 _).mono ?_
      rintro e w3 ⟨rfl, hD⟩
      have hB2 := dr_bel hD
      replace hY := Lib.hid (hY.out.bel hB2)
      replace hW := Lib.hid (hW.out.trans hB2)
      clear hB2 hD
      cases hf2 : fin32B E with
      | false =>
        have hR := Lib.hid (show slopeR a b B E S = noR by rw [hR0.out, hf1, hf2]; simp)
        obtain ⟨y0, y1, y2, f0, f1, f2⟩ := rbox_facts hY.out
        clear hf1
        clear hf2
        go_wp2_with fail
        refine bodyPost_ret (v := .tuple #[hillV 0 0 none 0 0, .bool false]) (by simp [results, Try.results22, go_sem, y0, y1, y2]) rfl (hret_no hR.out ?_)
        exact ((hW.out.setCell (by first | omega | (simp; done) | (simp; omega)) _).setCell (by first | omega | (simp; done) | (simp; omega)) _).setCell (by first | omega | (simp; done) | (simp; omega)) _
      | true =>
        go_wp2_with fail
        refine (l01Finite_any x3 S hS1 _).mono ?_
        rintro e w4 ⟨rfl, hD⟩
        have hB2 := dr_bel hD
        replace hY := Lib.hid (hY.out.bel hB2)
        replace hW := Lib.hid (hW.out.trans hB2)
        clear hB2 hD
        cases hf3 : fin32B S with
        | false =>
          have hR := Lib.hid (show slopeR a b B E S = noR by rw [hR0.out, hf1, hf2, hf3]; simp)
          obtain ⟨y0, y1, y2, f0, f1, f2⟩ := rbox_facts hY.out
          clear hf1
          clear hf2
          clear hf3
          go_wp2_with fail
          refine bodyPost_ret (v := .tuple #[hillV 0 0 none 0 0, .bool false]) (by simp [results, Try.results22, go_sem, y0, y1, y2]) rfl (hret_no hR.out ?_)
          exact ((hW.out.setCell (by first | omega | (simp; done) | (simp; omega)) _).setCell (by first | omega | (simp; done) | (simp; omega)) _).setCell (by first | omega | (simp; done) | (simp; omega)) _
        | true =>
          have hR := Lib.hid (show slopeR a b B E S = madeR a b (slopeF B E S a) by rw [hR0.out, hf1, hf2, hf3]; rfl)
          clear hf1 hf2 hf3
          go_wp2_with fail
          refine (l02Slope_any w4 a b ha1 ha2 hb1 hb2 x1 x2 x3 B E S hB1 hE1 hS1).mono ?_
          rintro e w5 ⟨g, cap, ws, rfl, hO, hG, hB3⟩
          have hg := (hO.own _ rfl).1
          have hws := hW.out.size
          have hg' := Lib.hid (show w.heap.size + 1 ≤ g from by have := hY.out.1; have h9 : w4.heap.size ≤ g := hg; omega)
          replace hY := Lib.hid (hY.out.bel hB3)
          have hO' := Lib.hid (hO.mono hW.out.size (Nat.le_refl _))
          replace hW := Lib.hid (hW.out.trans hB3)
          have hG' := Lib.hid hG
          have hv1' := Lib.hid (valid_made (F := slopeF B E S a) ha1 ha2 hb1 hb2 hG)
          have h256 := Lib.hid (show b * a ≤ 1048576 from by have := Nat.mul_le_mul hb2 ha2; omega)
          clear hO hG hB3 hg
          go_wp2_with fail
          refine (give_any _ _ _ _ _ _ ws hO'.out.row h256.out).mono ?_
          rintro e w6 ⟨rfl, hB5⟩
          rw [hv1'.out]
          obtain ⟨y0, y1, y2, f0, f1, f2⟩ := rbox_facts (hY.out.bel hB5)
          have hrow5 := Lib.hid (hO'.out.bel hB5)
          have hB5' := Lib.hid hB5
          have hsz5 := Lib.hid (show w5.heap.size ≤ w6.heap.size from hB5.size)
          clear hB5
          cases hal : allB (fun i => fin32B (slopeF B E S a i)) (b * a) with
          | true =>
            have hR2 := Lib.hid (madeR_t hal)
            clear hal
            go_wp2_with fail
            refine bodyPost_ret (v := .tuple #[hillV a b (some ⟨g, 0, none⟩) (b * a) cap, .bool true]) (by simp [results, Try.results22, go_sem, y0, y1, y2]) rfl ?_
            refine hret_set3 (by rw [hR.out, hR2.out]) (by rw [hR.out, hR2.out]) (by rw [hR.out, hR2.out]) (by rw [hR.out, hR2.out]) (hrow5.out.mono (Nat.le_refl _) hsz5.out) (fun q hq => by cases hq; have := hg'.out; simp; omega) (fun j hj => by rw [hR.out, hR2.out]; exact hG'.out j hj) (hW.out.trans hB5'.out) (Nat.le_refl _)
          | false =>
            have hR2 := Lib.hid (madeR_f hal)
            clear hal
            go_wp2_with fail
            refine bodyPost_ret (v := .tuple #[hillV 0 0 none 0 0, .bool false]) (by simp [results, Try.results22, go_sem, y0, y1, y2]) rfl (hret_no' (hR.out.trans hR2.out) ?_)
            exact (((hW.out.trans hB5'.out).setCell (by first | omega | (simp; done) | (simp; omega)) _).setCell (by first | omega | (simp; done) | (simp; omega)) _).setCell (by first | omega | (simp; done) | (simp; omega)) _
end Go.Proofs.Ytobghfjkkkfecaa
