/-
  PLAIN LAWS AND CONTRACTS, part 6.
-/
import Derived.Test.YtianaalokclklaaCz5
import Derived.Test.YtianaalokclklaaCz1
import Derived.Deep.Slices
import Derived.ProofKit
import Derived.Deep.OwnRows
import Derived.Lib.ItoaNum
import Derived.Lib.UnsafeStr
import Derived.Lib.Join
import Derived.Lib.ParseIntBCases
import Derived.Lib.SplitLaws
import Derived.WalkKit
import Derived.OwnWalk
import Derived.Deep.AppendLies
import Derived.Lib.Repeat
import Derived.Still
import Derived.Lib.Hide

/-
  CONTRACTS: phasors: every number of turns; the law.
-/
section
set_option exponentiation.threshold 5000
set_option linter.unusedSimpArgs false
set_option linter.unusedVariables false
namespace Go.Proofs.Ytianaalokclklaa
open Go.RowKit Go.Fl

theorem nfin64 {X : Nat} (hX : Fl.Can .f64 X) (h : fin64B X = false) : fne .f64 (fop .sub .f64 X X) 0 = true := by
  unfold fin64B at h
  rw [decide_eq_false_iff_not] at h
  have k : X = qn .f64 ∨ X = 9218868437227405312 ∨ X = 18442240474082181120 := by
    by_cases hn : isn .f64 X = true
    · exact .inl (hX.nan hn)
    · have hlt := can64_lt hX
      rw [isn64, decide_eq_true_eq] at hn
      omega
  rcases k with h | h | h <;> rw [h] <;> decide +kernel

theorem iPhasorOf_any (x X : Nat) (hx : Is .f64 x X) (w : World) : Calls Try.prog 6 #[.float .f64 x] w (CRet (phasor X).1 (phasor X).2 w) := by
  cases hf : fin64B X with
  | false =>
    have e : Hid ((nar (qn .f64), nar (qn .f64)) = phasor X) := Lib.hid (by unfold phasor; rw [hf, if_neg (by decide)]; decide +kernel)
    have hno : NoOv (qn .f64) := .inl (by decide +kernel)
    rw [← e.out]
    go_enter Try.func6, Try.ntmps6
    go_wp2_with (first | (go_at_call 14; refine (finite_any _ _ hx _).mono ?_; rintro e w' ⟨rfl, rfl⟩; simp only [hf]) | (go_at_call 15; refine (NaN_any _).mono ?_; rintro e w' ⟨r, rfl, hr, nd, rfl⟩) | ((with_reducible refine wpList_here ?_); (first | ((with_reducible refine wpList_feq (k := ?_) (bx := ?_) (by' := ?_) (X := ?_) (Y := ?_) ?_ ?_ ?_ ?_ ?_ ?_); rotate_left 5; (first | (with_reducible exact wanted_none) | ((with_reducible refine wanted_some ?_); rfl)); (rfl); (rfl); (first | assumption | ((refine Is.lit ?_); decide +kernel) | (refine Is.ofInt _ _)); (first | assumption | ((refine Is.lit ?_); decide +kernel) | (refine Is.ofInt _ _)); (try simp only [Act.put, List.setIfInBounds_toArray, List.set_cons_succ, List.set_cons_zero, World.drewN_drewN])) | ((with_reducible refine wpList_fne (k := ?_) (bx := ?_) (by' := ?_) (X := ?_) (Y := ?_) ?_ ?_ ?_ ?_ ?_ ?_); rotate_left 5; (first | (with_reducible exact wanted_none) | ((with_reducible refine wanted_some ?_); rfl)); (rfl); (rfl); (first | assumption | ((refine Is.lit ?_); decide +kernel) | (refine Is.ofInt _ _)); (first | assumption | ((refine Is.lit ?_); decide +kernel) | (refine Is.ofInt _ _)); (try simp only [Act.put, List.setIfInBounds_toArray, List.set_cons_succ, List.set_cons_zero, World.drewN_drewN])) | ((with_reducible refine wpList_flt (k := ?_) (bx := ?_) (by' := ?_) (X := ?_) (Y := ?_) ?_ ?_ ?_ ?_ ?_ ?_); rotate_left 5; (first | (with_reducible exact wanted_none) | ((with_reducible refine wanted_some ?_); rfl)); (rfl); (rfl); (first | assumption | ((refine Is.lit ?_); decide +kernel) | (refine Is.ofInt _ _)); (first | assumption | ((refine Is.lit ?_); decide +kernel) | (refine Is.ofInt _ _)); (try simp only [Act.put, List.setIfInBounds_toArray, List.set_cons_succ, List.set_cons_zero, World.drewN_drewN])) | ((with_reducible refine wpList_fle (k := ?_) (bx := ?_) (by' := ?_) (X := ?_) (Y := ?_) ?_ ?_ ?_ ?_ ?_ ?_); rotate_left 5; (first | (with_reducible exact wanted_none) | ((with_reducible refine wanted_some ?_); rfl)); (rfl); (rfl); (first | assumption | ((refine Is.lit ?_); decide +kernel) | (refine Is.ofInt _ _)); (first | assumption | ((refine Is.lit ?_); decide +kernel) | (refine Is.ofInt _ _)); (try simp only [Act.put, List.setIfInBounds_toArray, List.set_cons_succ, List.set_cons_zero, World.drewN_drewN])) | ((with_reducible refine wpList_fgt (k := ?_) (bx := ?_) (by' := ?_) (X := ?_) (Y := ?_) ?_ ?_ ?_ ?_ ?_ ?_); rotate_left 5; (first | (with_reducible exact wanted_none) | ((with_reducible refine wanted_some ?_); rfl)); (rfl); (rfl); (first | assumption | ((refine Is.lit ?_); decide +kernel) | (refine Is.ofInt _ _)); (first | assumption | ((refine Is.lit ?_); decide +kernel) | (refine Is.ofInt _ _)); (try simp only [Act.put, List.setIfInBounds_toArray, List.set_cons_succ, List.set_cons_zero, World.drewN_drewN])) | ((with_reducible refine wpList_fge (k := ?_) (bx := ?_) (by' := ?_) (X := ?_) (Y := ?_) ?_ ?_ ?_ ?_ ?_ ?_); rotate_left 5; (first | (with_reducible exact wanted_none) | ((with_reducible refine wanted_some ?_); rfl)); (rfl); (rfl); (first | assumption | ((refine Is.lit ?_); decide +kernel) | (refine Is.ofInt _ _)); (first | assumption | ((refine Is.lit ?_); decide +kernel) | (refine Is.ofInt _ _)); (try simp only [Act.put, List.setIfInBounds_toArray, List.set_cons_succ, List.set_cons_zero, World.drewN_drewN])) | ((with_reducible refine wpList_fadd (k := ?_) (bx := ?_) (by' := ?_) (X := ?_) (Y := ?_) ?_ ?_ ?_ ?_ ?_ ?_); rotate_left 5; (first | (with_reducible exact wanted_none) | ((with_reducible refine wanted_some ?_); rfl)); (rfl); (rfl); (first | assumption | ((refine Is.lit ?_); decide +kernel) | (refine Is.ofInt _ _)); (first | assumption | ((refine Is.lit ?_); decide +kernel) | (refine Is.ofInt _ _)); (intro r nd hr); (try simp only [Act.put, List.setIfInBounds_toArray, List.set_cons_succ, List.set_cons_zero, World.drewN_drewN])) | ((with_reducible refine wpList_fsub (k := ?_) (bx := ?_) (by' := ?_) (X := ?_) (Y := ?_) ?_ ?_ ?_ ?_ ?_ ?_); rotate_left 5; (first | (with_reducible exact wanted_none) | ((with_reducible refine wanted_some ?_); rfl)); (rfl); (rfl); (first | assumption | ((refine Is.lit ?_); decide +kernel) | (refine Is.ofInt _ _)); (first | assumption | ((refine Is.lit ?_); decide +kernel) | (refine Is.ofInt _ _)); (intro r nd hr); (try simp only [Act.put, List.setIfInBounds_toArray, List.set_cons_succ, List.set_cons_zero, World.drewN_drewN])) | ((with_reducible refine wpList_fmul (k := ?_) (bx := ?_) (by' := ?_) (X := ?_) (Y := ?_) ?_ ?_ ?_ ?_ ?_ ?_); rotate_left 5; (first | (with_reducible exact wanted_none) | ((with_reducible refine wanted_some ?_); rfl)); (rfl); (rfl); (first | assumption | ((refine Is.lit ?_); decide +kernel) | (refine Is.ofInt _ _)); (first | assumption | ((refine Is.lit ?_); decide +kernel) | (refine Is.ofInt _ _)); (intro r nd hr); (try simp only [Act.put, List.setIfInBounds_toArray, List.set_cons_succ, List.set_cons_zero, World.drewN_drewN])) | ((with_reducible refine wpList_fquo (k := ?_) (bx := ?_) (by' := ?_) (X := ?_) (Y := ?_) ?_ ?_ ?_ ?_ ?_ ?_); rotate_left 5; (first | (with_reducible exact wanted_none) | ((with_reducible refine wanted_some ?_); rfl)); (rfl); (rfl); (first | assumption | ((refine Is.lit ?_); decide +kernel) | (refine Is.ofInt _ _)); (first | assumption | ((refine Is.lit ?_); decide +kernel) | (refine Is.ofInt _ _)); (intro r nd hr); (try simp only [Act.put, List.setIfInBounds_toArray, List.set_cons_succ, List.set_cons_zero, World.drewN_drewN])) | ((with_reducible refine wpList_widen Try.underlying28 Try.underlying27 (bx := ?_) (X := ?_) ?_ ?_ ?_ ?_); rotate_left 2; (first | (with_reducible exact wanted_none) | ((with_reducible refine wanted_some ?_); rfl)); (rfl); (first | assumption | ((refine Is.lit ?_); decide +kernel) | (refine Is.ofInt _ _)); (intro r nd hr); (try simp only [Act.put, List.setIfInBounds_toArray, List.set_cons_succ, List.set_cons_zero, World.drewN_drewN])) | ((with_reducible refine wpList_narrow Try.underlying27 Try.underlying28 (bx := ?_) (X := ?_) ?_ ?_ ?_ ?_ ?_); rotate_left 2; (first | (with_reducible exact wanted_none) | ((with_reducible refine wanted_some ?_); rfl)); (rfl); (first | assumption | ((refine Is.lit ?_); decide +kernel) | (refine Is.ofInt _ _)); assumption; (intro r nd hr); (try simp only [Act.put, List.setIfInBounds_toArray, List.set_cons_succ, List.set_cons_zero, World.drewN_drewN])) | ((with_reducible refine wpList_fneg (k := ?_) (bx := ?_) (X := ?_) ?_ ?_ ?_ ?_); rotate_left 3; (first | (with_reducible exact wanted_none) | ((with_reducible refine wanted_some ?_); rfl)); (rfl); (first | assumption | ((refine Is.lit ?_); decide +kernel) | (refine Is.ofInt _ _)); (intro r hr); (try simp only [Act.put, List.setIfInBounds_toArray, List.set_cons_succ, List.set_cons_zero, World.drewN_drewN])))))
    go_ret
    exact ⟨_, _, rfl, by assumption, by assumption, (by repeat (first | exact Dr.refl _ | apply Dr.drewN))⟩
  | true =>
    have h64 : Fin64 X := by unfold fin64B at hf; rw [decide_eq_true_eq] at hf; exact hf
    by_cases hl : 2 ^ 1126 ≤ mv X
    · have e : Hid ((1065353216, 0) = phasor X) := Lib.hid (by unfold phasor; rw [hf, if_pos rfl, if_pos hl])
      have n2 : fge .f64 (fabs X) 4841369599423283200 = true := by rw [abs_ge h64]; exact decide_eq_true hl
      clear hl h64
      rw [← e.out]
      go_enter Try.func6, Try.ntmps6
      go_wp2_with (first | (go_at_call 14; refine (finite_any _ _ hx _).mono ?_; rintro e w' ⟨rfl, rfl⟩; simp only [hf]) | (go_at_call 16; refine (Absf_any _ _ (by assumption) _).mono ?_; rintro e w' ⟨r, rfl, hr, rfl⟩) | (((with_reducible refine wpList_here ?_); (first | ((with_reducible refine wpList_feq (k := ?_) (bx := ?_) (by' := ?_) (X := ?_) (Y := ?_) ?_ ?_ ?_ ?_ ?_ ?_); rotate_left 5; (first | (with_reducible exact wanted_none) | ((with_reducible refine wanted_some ?_); rfl)); (rfl); (rfl); (first | assumption | ((refine Is.lit ?_); decide +kernel) | (refine Is.ofInt _ _)); (first | assumption | ((refine Is.lit ?_); decide +kernel) | (refine Is.ofInt _ _)); (try simp only [Act.put, List.setIfInBounds_toArray, List.set_cons_succ, List.set_cons_zero, World.drewN_drewN])) | ((with_reducible refine wpList_fne (k := ?_) (bx := ?_) (by' := ?_) (X := ?_) (Y := ?_) ?_ ?_ ?_ ?_ ?_ ?_); rotate_left 5; (first | (with_reducible exact wanted_none) | ((with_reducible refine wanted_some ?_); rfl)); (rfl); (rfl); (first | assumption | ((refine Is.lit ?_); decide +kernel) | (refine Is.ofInt _ _)); (first | assumption | ((refine Is.lit ?_); decide +kernel) | (refine Is.ofInt _ _)); (try simp only [Act.put, List.setIfInBounds_toArray, List.set_cons_succ, List.set_cons_zero, World.drewN_drewN])) | ((with_reducible refine wpList_flt (k := ?_) (bx := ?_) (by' := ?_) (X := ?_) (Y := ?_) ?_ ?_ ?_ ?_ ?_ ?_); rotate_left 5; (first | (with_reducible exact wanted_none) | ((with_reducible refine wanted_some ?_); rfl)); (rfl); (rfl); (first | assumption | ((refine Is.lit ?_); decide +kernel) | (refine Is.ofInt _ _)); (first | assumption | ((refine Is.lit ?_); decide +kernel) | (refine Is.ofInt _ _)); (try simp only [Act.put, List.setIfInBounds_toArray, List.set_cons_succ, List.set_cons_zero, World.drewN_drewN])) | ((with_reducible refine wpList_fle (k := ?_) (bx := ?_) (by' := ?_) (X := ?_) (Y := ?_) ?_ ?_ ?_ ?_ ?_ ?_); rotate_left 5; (first | (with_reducible exact wanted_none) | ((with_reducible refine wanted_some ?_); rfl)); (rfl); (rfl); (first | assumption | ((refine Is.lit ?_); decide +kernel) | (refine Is.ofInt _ _)); (first | assumption | ((refine Is.lit ?_); decide +kernel) | (refine Is.ofInt _ _)); (try simp only [Act.put, List.setIfInBounds_toArray, List.set_cons_succ, List.set_cons_zero, World.drewN_drewN])) | ((with_reducible refine wpList_fgt (k := ?_) (bx := ?_) (by' := ?_) (X := ?_) (Y := ?_) ?_ ?_ ?_ ?_ ?_ ?_); rotate_left 5; (first | (with_reducible exact wanted_none) | ((with_reducible refine wanted_some ?_); rfl)); (rfl); (rfl); (first | assumption | ((refine Is.lit ?_); decide +kernel) | (refine Is.ofInt _ _)); (first | assumption | ((refine Is.lit ?_); decide +kernel) | (refine Is.ofInt _ _)); (try simp only [Act.put, List.setIfInBounds_toArray, List.set_cons_succ, List.set_cons_zero, World.drewN_drewN])) | ((with_reducible refine wpList_fge (k := ?_) (bx := ?_) (by' := ?_) (X := ?_) (Y := ?_) ?_ ?_ ?_ ?_ ?_ ?_); rotate_left 5; (first | (with_reducible exact wanted_none) | ((with_reducible refine wanted_some ?_); rfl)); (rfl); (rfl); (first | assumption | ((refine Is.lit ?_); decide +kernel) | (refine Is.ofInt _ _)); (first | assumption | ((refine Is.lit ?_); decide +kernel) | (refine Is.ofInt _ _)); (try simp only [Act.put, List.setIfInBounds_toArray, List.set_cons_succ, List.set_cons_zero, World.drewN_drewN])) | ((with_reducible refine wpList_fadd (k := ?_) (bx := ?_) (by' := ?_) (X := ?_) (Y := ?_) ?_ ?_ ?_ ?_ ?_ ?_); rotate_left 5; (first | (with_reducible exact wanted_none) | ((with_reducible refine wanted_some ?_); rfl)); (rfl); (rfl); (first | assumption | ((refine Is.lit ?_); decide +kernel) | (refine Is.ofInt _ _)); (first | assumption | ((refine Is.lit ?_); decide +kernel) | (refine Is.ofInt _ _)); (intro r nd hr); (try simp only [Act.put, List.setIfInBounds_toArray, List.set_cons_succ, List.set_cons_zero, World.drewN_drewN])) | ((with_reducible refine wpList_fsub (k := ?_) (bx := ?_) (by' := ?_) (X := ?_) (Y := ?_) ?_ ?_ ?_ ?_ ?_ ?_); rotate_left 5; (first | (with_reducible exact wanted_none) | ((with_reducible refine wanted_some ?_); rfl)); (rfl); (rfl); (first | assumption | ((refine Is.lit ?_); decide +kernel) | (refine Is.ofInt _ _)); (first | assumption | ((refine Is.lit ?_); decide +kernel) | (refine Is.ofInt _ _)); (intro r nd hr); (try simp only [Act.put, List.setIfInBounds_toArray, List.set_cons_succ, List.set_cons_zero, World.drewN_drewN])) | ((with_reducible refine wpList_fmul (k := ?_) (bx := ?_) (by' := ?_) (X := ?_) (Y := ?_) ?_ ?_ ?_ ?_ ?_ ?_); rotate_left 5; (first | (with_reducible exact wanted_none) | ((with_reducible refine wanted_some ?_); rfl)); (rfl); (rfl); (first | assumption | ((refine Is.lit ?_); decide +kernel) | (refine Is.ofInt _ _)); (first | assumption | ((refine Is.lit ?_); decide +kernel) | (refine Is.ofInt _ _)); (intro r nd hr); (try simp only [Act.put, List.setIfInBounds_toArray, List.set_cons_succ, List.set_cons_zero, World.drewN_drewN])) | ((with_reducible refine wpList_fquo (k := ?_) (bx := ?_) (by' := ?_) (X := ?_) (Y := ?_) ?_ ?_ ?_ ?_ ?_ ?_); rotate_left 5; (first | (with_reducible exact wanted_none) | ((with_reducible refine wanted_some ?_); rfl)); (rfl); (rfl); (first | assumption | ((refine Is.lit ?_); decide +kernel) | (refine Is.ofInt _ _)); (first | assumption | ((refine Is.lit ?_); decide +kernel) | (refine Is.ofInt _ _)); (intro r nd hr); (try simp only [Act.put, List.setIfInBounds_toArray, List.set_cons_succ, List.set_cons_zero, World.drewN_drewN])) | ((with_reducible refine wpList_widen Try.underlying28 Try.underlying27 (bx := ?_) (X := ?_) ?_ ?_ ?_ ?_); rotate_left 2; (first | (with_reducible exact wanted_none) | ((with_reducible refine wanted_some ?_); rfl)); (rfl); (first | assumption | ((refine Is.lit ?_); decide +kernel) | (refine Is.ofInt _ _)); (intro r nd hr); (try simp only [Act.put, List.setIfInBounds_toArray, List.set_cons_succ, List.set_cons_zero, World.drewN_drewN])) | ((with_reducible refine wpList_narrow Try.underlying27 Try.underlying28 (bx := ?_) (X := ?_) ?_ ?_ ?_ ?_ ?_); rotate_left 2; (first | (with_reducible exact wanted_none) | ((with_reducible refine wanted_some ?_); rfl)); (rfl); (first | assumption | ((refine Is.lit ?_); decide +kernel) | (refine Is.ofInt _ _)); assumption; (intro r nd hr); (try simp only [Act.put, List.setIfInBounds_toArray, List.set_cons_succ, List.set_cons_zero, World.drewN_drewN])) | ((with_reducible refine wpList_fneg (k := ?_) (bx := ?_) (X := ?_) ?_ ?_ ?_ ?_); rotate_left 3; (first | (with_reducible exact wanted_none) | ((with_reducible refine wanted_some ?_); rfl)); (rfl); (first | assumption | ((refine Is.lit ?_); decide +kernel) | (refine Is.ofInt _ _)); (intro r hr); (try simp only [Act.put, List.setIfInBounds_toArray, List.set_cons_succ, List.set_cons_zero, World.drewN_drewN])))); try simp only [n2]))
      go_ret
      exact ⟨_, _, rfl, Is.lit (by decide +kernel), Is.lit (by decide +kernel), (by repeat (first | exact Dr.refl _ | apply Dr.drewN))⟩
    · have e : Hid ((nar (phRe X), nar (phIm X)) = phasor X) := Lib.hid (by unfold phasor; rw [hf, if_pos rfl, if_neg hl])
      have g : Small X := ⟨⟨by have := hx.can.1; rw [w64] at this; exact this, h64, Nat.le_of_not_le hl⟩, Nat.lt_of_not_le hl⟩
      rw [← e.out]
      exact iPhasor_small x X hx g w
end Go.Proofs.Ytianaalokclklaa
end

/-
  SLICES OF 32-BIT NUMBERS: what is known of one in a world; one that came in, opened. (No program here.)
-/
section
set_option linter.unusedVariables false
set_option linter.unusedSimpArgs false
namespace Go.Fl
open Go Ieee Go.ChangeShapes Go.WideShapes

/-- '.slice ao n c' reads as the words 'xs' in 'w' -/
structure FRow (w : World) (ao : Option Addr) (n : Nat) (xs : List Nat) : Prop where
  len : xs.length = n
  at0 : 0 < n → ∃ b off, ao = some ⟨b, off, none⟩ ∧ b < w.heap.size ∧ ∀ i, i < n → w.cell? ⟨b, off + i, none⟩ = some (.float .f32 (xs.getD i 0))
  wf : ∀ i, i < n → xs.getD i 0 < 4294967296

theorem FRow.is {w : World} {ao : Option Addr} {n : Nat} {xs : List Nat} (h : FRow w ao n xs) {i : Nat} (hi : i < n) : Is .f32 (xs.getD i 0) (cn .f32 (xs.getD i 0)) :=
  ⟨by rw [w32]; exact h.wf i hi, rfl⟩

theorem lt_of_cell {w : World} {a : Addr} {v : Value} (h : w.cell? a = some v) : a.block < w.heap.size := by
  unfold World.cell? at h
  cases hb : w.heap[a.block]? with
  | none => rw [hb] at h; cases h
  | some o => exact (Array.getElem?_eq_some_iff.1 hb).1

/-- in a world in which old memory stands as it was, it reads as it did -/
theorem FRow.below {w w' : World} {ao : Option Addr} {n : Nat} {xs : List Nat} (h : FRow w ao n xs) {B : Nat} (hB : w.heap.size ≤ B) (hb : RowKit.Below B w w') : FRow w' ao n xs := by
  refine ⟨h.len, fun hn => ?_, h.wf⟩
  obtain ⟨b, off, h1, h2, h3⟩ := h.at0 hn
  refine ⟨b, off, h1, Nat.lt_of_lt_of_le h2 hb.size, fun i hi => ?_⟩
  rw [hb.cell (p := ⟨b, off + i, none⟩) (by show b < B; omega)]
  exact h3 i hi

theorem FRow.drewN {w : World} {ao : Option Addr} {n : Nat} {xs : List Nat} (h : FRow w ao n xs) (q : Nat) : FRow (w.drewN q) ao n xs := ⟨h.len, h.at0, h.wf⟩

section
variable {H : Type} {enc : TypeId × Value → H} {P : Program} {W : World}

/-- a slice of 32-bit numbers that came in -/
theorem open_frow {t e : TypeId} {v : Value} {d : DataW H} {ps : List MemPlace} {r : Reach} {b0 : Nat} (ht : P.underlying t = some (.slice e)) (he : P.underlying e = some (.float .f32)) (hc : P.cellsOf e = 1)
    (hv : Value.okWide P W r b0 t v) (h : DataW.Trod enc P W 0 (fun _ => true) true t v d ps) :
    ∃ ao n c xs, v = .slice ao n c ∧ FRow W ao n xs ∧ n ≤ c ∧ c ≤ maxLen := by
  obtain ⟨ao, n, c, rfl⟩ := okWide_slice ht hv
  obtain ⟨fuel, hf⟩ := h
  rcases Deep.open_slice1 ht hc hf with ⟨h0, _⟩ | ⟨a, len, cap, m, k, V, D, Pl, h0, hb, hl, hm, hmm, hx, hi⟩
  · simp [Value.cells] at h0
    obtain ⟨rfl, rfl, rfl⟩ := h0
    exact ⟨none, 0, 0, [], rfl, ⟨rfl, fun h => absurd h (by omega), fun i h => absurd h (by omega)⟩, Nat.le_refl _, by simp [maxLen]⟩
  · simp [Value.cells] at h0
    obtain ⟨rfl, rfl, rfl⟩ := h0
    simp at hmm
    have each : ∀ i, i < n → ∃ x, V i = .float .f32 x ∧ x < 4294967296 := by
      intro i hi'
      obtain ⟨_, h2⟩ := hi i (by omega)
      cases k with
      | zero => simp [DataW.trod] at h2
      | succ k =>
        simp only [DataW.trod, he] at h2
        cases hV : V i <;> rw [hV] at h2 <;> simp at h2
        rename_i kk b
        obtain ⟨rfl, h3⟩ := h2.1
        exact ⟨b, rfl, by simpa [Lit.wf] using h3⟩
    obtain ⟨f, hf'⟩ := Deep.choose_lt (α := Nat) (p := fun i x => V i = .float .f32 x ∧ x < 4294967296) each
    refine ⟨some a, n, c, (List.range n).map f, rfl, ⟨by simp, fun hn => ?_, fun i hi' => ?_⟩, hl, hm⟩
    · obtain ⟨b, off, spot⟩ := a
      have h00 := (hi 0 (by omega)).1
      have hspot : spot = none := by simpa [Addr.add] using World.cell?_spot h00
      subst hspot
      refine ⟨b, off, rfl, ?_, fun i hi' => ?_⟩
      · have := lt_of_cell h00
        simpa [Addr.add] using this
      · have h1 := (hi i (by omega)).1
        rw [(hf' i hi').1] at h1
        have e : ((List.range n).map f).getD i 0 = f i := by simp [List.getD, hi']
        rw [e, ← h1]
        congr 1
        unfold Addr.add
        split
        · rename_i h; simp [h]
        · rfl
    · have e : ((List.range n).map f).getD i 0 = f i := by simp [List.getD, hi']
      rw [e]; exact (hf' i hi').2
end


/-- of what was there before nothing has turned -/
def Bel (w w' : World) : Prop := RowKit.Below w.heap.size w w'
theorem Bel.refl (w : World) : Bel w w := RowKit.Below.refl _ _
theorem Bel.trans {a b c : World} (h : Bel a b) (k : Bel b c) : Bel a c := RowKit.Below.trans h (RowKit.Below.mono k h.size)
theorem Bel.drewN {a b : World} (h : Bel a b) (n : Nat) : Bel a (b.drewN n) := Bel.trans h ((Dr.refl _).drewN n |>.below _)
theorem Bel.dr {a b c : World} (h : Bel a b) (k : Dr b c) : Bel a c := Bel.trans h (k.below _)
theorem FRow.bel {w w' : World} {ao : Option Addr} {n : Nat} {xs : List Nat} (h : FRow w ao n xs) (hb : Bel w w') : FRow w' ao n xs := h.below (Nat.le_refl _) hb

end Go.Fl
end

/-
  WORLDS AND ROWS: what a write to one row leaves as it was; a row of the call's own between two block numbers; tests on all of a row. (No program here.)
-/
section
set_option linter.unusedVariables false
set_option linter.unusedSimpArgs false
namespace Go.Fl
open Go Ieee Go.RowKit

def allB (p : Nat → Bool) : Nat → Bool
  | 0 => true
  | k + 1 => allB p k && p k
theorem allB_iff {p : Nat → Bool} {n : Nat} : allB p n = true ↔ ∀ i, i < n → p i = true := by
  induction n with
  | zero => simp [allB]
  | succ n ih =>
    simp only [allB, Bool.and_eq_true, ih]
    constructor
    · rintro ⟨h, g⟩ i hi
      by_cases e : i = n
      · subst e; exact g
      · exact h i (by omega)
    · intro h; exact ⟨fun i hi => h i (by omega), h n (by omega)⟩
theorem allB_no {p : Nat → Bool} {n k : Nat} (hk : k < n) (h : p k = false) : allB p n = false := by
  cases g : allB p n
  · rfl
  · rw [allB_iff.1 g k hk] at h; cases h
theorem allB_succ {p : Nat → Bool} {k : Nat} (h : allB p k = true) (g : p k = true) : allB p (k + 1) = true := by simp [allB, h, g]
theorem allB_congr {p q : Nat → Bool} {n : Nat} (h : ∀ i, i < n → p i = q i) : allB p n = allB q n := by
  rw [Bool.eq_iff_iff, allB_iff, allB_iff]
  exact ⟨fun g i hi => by rw [← h i hi]; exact g i hi, fun g i hi => by rw [h i hi]; exact g i hi⟩

/-- all numbers of a row are finite -/
def finB (xs : List Nat) (n : Nat) : Bool := allB (fun i => fin32B (cn .f32 (xs.getD i 0))) n
/-- two rows hold the same numbers -/
def sameB (xs ys : List Nat) (n : Nat) : Bool := allB (fun i => cn .f32 (xs.getD i 0) == cn .f32 (ys.getD i 0)) n

theorem Bel.alloc {a b : World} (h : Bel a b) (o : Obj) : Bel a (b.alloc o) := Below.alloc h h.size o
theorem Bel.setCell {a b : World} (h : Bel a b) {p : Addr} (hp : a.heap.size ≤ p.block) (v : Value) : Bel a (b.setCell p v) := Below.setCell h hp v
theorem FRow.alloc {w : World} {ao : Option Addr} {n : Nat} {xs : List Nat} (h : FRow w ao n xs) (o : Obj) : FRow (w.alloc o) ao n xs := h.bel ((Bel.refl w).alloc o)

/-- what a call that makes memory has done -/
def BRet (v : Value) (w : World) (e : Ending) (w' : World) : Prop := e = .returned v ∧ Bel w w'

/-- but for the block of one row the world is as it was -/
structure Only (ao : Option Addr) (w w' : World) : Prop where
  os : w'.os = w.os
  tape : w'.tape = w.tape
  output : w'.output = w.output
  size : w'.heap.size = w.heap.size
  block : ∀ j, (∀ a, ao = some a → a.block ≠ j) → w'.heap[j]? = w.heap[j]?

theorem Only.refl (ao : Option Addr) (w : World) : Only ao w w := ⟨rfl, rfl, rfl, rfl, fun _ _ => rfl⟩
theorem Only.setCell {b off : Nat} {w wr : World} (h : Only (some ⟨b, off, none⟩) w wr) (j : Nat) (v : Value) : Only (some ⟨b, off, none⟩) w (wr.setCell ⟨b, j, none⟩ v) := by
  refine ⟨h.os, h.tape, h.output, by simpa [World.setCell] using h.size, fun k hk => ?_⟩
  rw [Below.heap_setCell wr ⟨b, j, none⟩ v k (fun e => hk _ rfl e.symm)]
  exact h.block k hk
theorem Only.drewN {ao : Option Addr} {w wr : World} (h : Only ao w wr) (n : Nat) : Only ao w (wr.drewN n) := ⟨h.os, h.tape, h.output, h.size, h.block⟩
theorem Only.below {ao : Option Addr} {w w' : World} (h : Only ao w w') {B : Nat} (hB : ∀ a, ao = some a → B ≤ a.block) : Below B w w' :=
  ⟨h.os, h.tape, h.output, Nat.le_of_eq h.size.symm, fun k hk => h.block k (fun a ha => by have := hB a ha; omega)⟩

/-- a row of the call's own, in a block from 'lo' on and below 'hi' -/
structure ORow (lo hi : Nat) (w : World) (ao : Option Addr) (n : Nat) (xs : List Nat) : Prop where
  row : FRow w ao n xs
  own : ∀ a, ao = some a → lo ≤ a.block ∧ a.block < hi ∧ a.block < w.heap.size ∧ ∀ j, w.frozen? ⟨a.block, j, none⟩ = false

theorem ORow.bel {lo hi : Nat} {w w' : World} {ao : Option Addr} {n : Nat} {xs : List Nat} (h : ORow lo hi w ao n xs) (hb : Bel w w') : ORow lo hi w' ao n xs := by
  refine ⟨h.row.bel hb, fun a ha => ?_⟩
  obtain ⟨h1, h2, h3, h4⟩ := h.own a ha
  refine ⟨h1, h2, Nat.lt_of_lt_of_le h3 hb.size, fun j => ?_⟩
  rw [hb.frozen (p := ⟨a.block, j, none⟩) h3]; exact h4 j
theorem ORow.drewN {lo hi : Nat} {w : World} {ao : Option Addr} {n : Nat} {xs : List Nat} (h : ORow lo hi w ao n xs) (q : Nat) : ORow lo hi (w.drewN q) ao n xs := ⟨h.row.drewN q, h.own⟩
theorem FRow.only {w w' : World} {ao bo : Option Addr} {n : Nat} {xs : List Nat} (h : FRow w ao n xs) (ho : Only bo w w') (hd : 0 < n → ∀ a b, ao = some a → bo = some b → b.block ≠ a.block) : FRow w' ao n xs := by
  refine ⟨h.len, fun hn => ?_, h.wf⟩
  obtain ⟨b, off, h1, h2, h3⟩ := h.at0 hn
  refine ⟨b, off, h1, by rw [ho.size]; exact h2, fun i hi => ?_⟩
  rw [World.cell?_of_block (w := w) (a := ⟨b, off + i, none⟩) (ho.block b (fun a ha => hd hn _ _ h1 ha))]
  exact h3 i hi
theorem ORow.only {lo hi : Nat} {w w' : World} {ao bo : Option Addr} {n : Nat} {xs : List Nat} (h : ORow lo hi w ao n xs) (ho : Only bo w w') (hd : ∀ a b, ao = some a → bo = some b → b.block ≠ a.block) : ORow lo hi w' ao n xs := by
  refine ⟨h.row.only ho (fun _ => hd), fun a ha => ?_⟩
  obtain ⟨h1, h2, h3, h4⟩ := h.own a ha
  refine ⟨h1, h2, by rw [ho.size]; exact h3, fun j => ?_⟩
  rw [World.frozen?_of_block (w := w) (a := ⟨a.block, j, none⟩) (ho.block a.block (fun b hb => hd _ _ ha hb))]
  exact h4 j
/-- rows between other numbers are apart -/
theorem ORow.apart {lo hi lo' hi' : Nat} {w w' : World} {ao bo : Option Addr} {n m : Nat} {xs ys : List Nat} (h : ORow lo hi w ao n xs) (k : ORow lo' hi' w' bo m ys) (hd : hi ≤ lo' ∨ hi' ≤ lo) :
    ∀ a b, ao = some a → bo = some b → b.block ≠ a.block := fun a b ha hb => by
  have := h.own a ha; have := k.own b hb; omega
theorem ORow.nil (lo hi : Nat) (w : World) : ORow lo hi w none 0 [] :=
  ⟨⟨rfl, fun h => absurd h (by omega), fun i h => absurd h (by omega)⟩, fun a h => by cases h⟩

theorem FRow.setOther {w : World} {ao : Option Addr} {n : Nat} {xs : List Nat} (h : FRow w ao n xs) {p : Addr} (hp : ∀ a, ao = some a → a.block ≠ p.block) (v : Value) : FRow (w.setCell p v) ao n xs := by
  refine ⟨h.len, fun hn => ?_, h.wf⟩
  obtain ⟨b, off, h1, h2, h3⟩ := h.at0 hn
  refine ⟨b, off, h1, by simpa [World.setCell] using h2, fun i hi => ?_⟩
  rw [World.cell?_of_block (w := w) (a := ⟨b, off + i, none⟩) (Below.heap_setCell w p v b (hp _ h1))]
  exact h3 i hi
theorem ORow.setOther {lo hi : Nat} {w : World} {ao : Option Addr} {n : Nat} {xs : List Nat} (h : ORow lo hi w ao n xs) {p : Addr} (hp : ∀ a, ao = some a → a.block ≠ p.block) (v : Value) : ORow lo hi (w.setCell p v) ao n xs := by
  refine ⟨h.row.setOther hp v, fun a ha => ?_⟩
  obtain ⟨h1, h2, h3, h4⟩ := h.own a ha
  exact ⟨h1, h2, by simpa [World.setCell] using h3, fun j => by rw [World.frozen?_setCell]; exact h4 j⟩
theorem ORow.setBelow {lo hi : Nat} {w : World} {ao : Option Addr} {n : Nat} {xs : List Nat} (h : ORow lo hi w ao n xs) {p : Addr} (hp : p.block < lo) (v : Value) : ORow lo hi (w.setCell p v) ao n xs :=
  h.setOther (fun a ha => by have := h.own a ha; omega) v
theorem ORow.mono {lo hi lo' hi' : Nat} {w : World} {ao : Option Addr} {n : Nat} {xs : List Nat} (h : ORow lo hi w ao n xs) (h1 : lo' ≤ lo) (h2 : hi ≤ hi') : ORow lo' hi' w ao n xs :=
  ⟨h.row, fun a ha => by obtain ⟨g1, g2, g3, g4⟩ := h.own a ha; exact ⟨Nat.le_trans h1 g1, Nat.lt_of_lt_of_le g2 h2, g3, g4⟩⟩
theorem ORow.alloc {lo hi : Nat} {w : World} {ao : Option Addr} {n : Nat} {xs : List Nat} (h : ORow lo hi w ao n xs) (o : Obj) : ORow lo hi (w.alloc o) ao n xs := h.bel ((Bel.refl w).alloc o)

/-- the marks 'k', 'k + 1', .. as 32-bit numbers -/
def marks (k n : Nat) : List Nat := (List.range n).map fun i => floatOfInt .f32 ((k + i : Nat) : Int)
theorem marks_at {k n i : Nat} (h : i < n) : (marks k n).getD i 0 = floatOfInt .f32 ((k + i : Nat) : Int) := by simp [marks, List.getD, h]
theorem marks_len (k n : Nat) : (marks k n).length = n := by simp [marks]
theorem fi32_lt (n : Int) : floatOfInt .f32 n < 4294967296 := by have := (Is.ofInt .f32 n).1; rw [w32] at this; exact this
theorem fi32_not (n : Int) : isn .f32 (floatOfInt .f32 n) = false := by
  have h : floatOfInt .f32 n = Ieee.single.write (.number (decide (n < 0)) n.natAbs 0) := rfl
  unfold isn FloatKind.decode
  rw [h]
  exact write_not_nan Ieee.single rfl

theorem fne_num {k : FloatKind} {X : Nat} (hn : isn k X = false) : fne k X X = false := by
  cases h : fne k X X
  · rfl
  · rcases (fne_iff k X X).1 h with g | g | g
    · rw [hn] at g; cases g
    · rw [hn] at g; cases g
    · exact absurd rfl g

/-- marking under way: the first 'i' of 'n' are marked -/
structure MFill (lo hi : Nat) (b off : Nat) (w wr : World) (n k i : Nat) (xs : List Nat) : Prop where
  only : Only (some ⟨b, off, none⟩) w wr
  cells : ∀ j, j < n → wr.cell? ⟨b, off + j, none⟩ = some (.float .f32 (if j < i then floatOfInt .f32 ((k + j : Nat) : Int) else xs.getD j 0))
  thaw : ∀ j, wr.frozen? ⟨b, j, none⟩ = false

theorem MFill.start {lo hi b off : Nat} {w : World} {n k : Nat} {xs : List Nat} (h : ORow lo hi w (some ⟨b, off, none⟩) n xs) (hn : 0 < n) : MFill lo hi b off w w n k 0 xs := by
  refine ⟨Only.refl _ _, fun j hj => ?_, (h.own _ rfl).2.2.2⟩
  obtain ⟨b', off', h1, h2, h3⟩ := h.row.at0 hn
  cases h1
  rw [h3 j hj, if_neg (by omega)]
theorem MFill.next {lo hi b off : Nat} {w wr : World} {n k i : Nat} {xs : List Nat} (h : MFill lo hi b off w wr n k i xs) (hi' : i < n) : MFill lo hi b off w (wr.setCell ⟨b, off + i, none⟩ (.float .f32 (floatOfInt .f32 ((k + i : Nat) : Int)))) n k (i + 1) xs := by
  refine ⟨h.only.setCell _ _, fun j hj => ?_, fun j => by rw [World.frozen?_setCell]; exact h.thaw j⟩
  by_cases e : i = j
  · subst e
    rw [World.cell?_setCell_same _ _ _ (h.cells i hi'), if_pos (by omega)]
  · rw [World.cell?_setCell_other _ _ _ _ (by intro he; injection he with h1 h2 h3; omega), h.cells j hj]
    by_cases g : j < i
    · rw [if_pos g, if_pos (by omega)]
    · rw [if_neg g, if_neg (by omega)]
theorem MFill.done {lo hi b off : Nat} {w wr : World} {n k : Nat} {xs : List Nat} (h : MFill lo hi b off w wr n k n xs) (h0 : ORow lo hi w (some ⟨b, off, none⟩) n xs) : ORow lo hi wr (some ⟨b, off, none⟩) n (marks k n) := by
  obtain ⟨g1, g2, g3, g4⟩ := h0.own _ rfl
  refine ⟨⟨marks_len _ _, fun hn => ⟨b, off, rfl, by rw [h.only.size]; exact g3, fun i hi => ?_⟩, fun i hi => by rw [marks_at hi]; exact fi32_lt _⟩, fun a ha => by cases ha; exact ⟨g1, g2, by rw [h.only.size]; exact g3, h.thaw⟩⟩
  rw [h.cells i hi, if_pos hi, marks_at hi]

def MkRet (lo hi : Nat) (ao : Option Addr) (n k : Nat) (w : World) (e : Ending) (w' : World) : Prop :=
  e = .returned (.int .i64 ((k + n : Nat) : Int)) ∧ ORow lo hi w' ao n (marks k n) ∧ Only ao w w'

end Go.Fl
end

/-
  PLAIN LAWS: the digits of a number, from the last one to the first. (No program here.)
-/
section
set_option linter.unusedVariables false
set_option linter.unusedSimpArgs false
namespace Go.Fl
open Go Go.RowKit

theorem dd_small {u : Nat} (h : u < 10) : Lib.decDigits u = [UInt8.ofNat (48 + u)] := by rw [Lib.decDigits, dif_pos h]
theorem dd_step {u : Nat} (h : ¬ u < 10) : Lib.decDigits u = Lib.decDigits (u / 10) ++ [UInt8.ofNat (48 + u % 10)] := by rw [Lib.decDigits, dif_neg h]
/-- 'L' are the digits told so far, 'r' is what is left, 'j' digits are still to come at most -/
structure DInv (n : Int) (L : List UInt8) (r : Int) (j : Nat) : Prop where
  lt : r.natAbs < 10 ^ j
  len : L.length + j = 20
  fst : L = [] → r = n
  rest : L ≠ [] → Lib.decDigits n.natAbs = if r = 0 then L else Lib.decDigits r.natAbs ++ L
theorem DInv.start {n : Int} (h1 : -9223372036854775808 ≤ n) (h2 : n ≤ 9223372036854775807) : DInv n [] n 20 :=
  ⟨by have : (10 : Nat) ^ 20 = 100000000000000000000 := by decide
      omega, rfl, fun _ => rfl, fun h => absurd rfl h⟩
theorem DInv.next {n r : Int} {L : List UInt8} {j : Nat} (h : DInv n L r (j + 1)) (hg : L = [] ∨ r ≠ 0) : DInv n (UInt8.ofNat (48 + r.natAbs % 10) :: L) (r.tdiv 10) j := by
  have hq : (r.tdiv 10).natAbs = r.natAbs / 10 := Int.natAbs_tdiv r 10
  have hz : r.tdiv 10 = 0 ↔ r.natAbs < 10 := by
    constructor
    · intro e; rw [e] at hq; simp at hq; omega
    · intro e; have : (r.tdiv 10).natAbs = 0 := by rw [hq]; omega
      omega
  refine ⟨?_, by have := h.len; simp; omega, (fun h => by cases h), fun _ => ?_⟩
  · rw [hq]
    have := h.lt
    rw [Nat.pow_succ] at this
    exact Nat.div_lt_of_lt_mul (by omega)
  · have key : Lib.decDigits r.natAbs = if r.tdiv 10 = 0 then [UInt8.ofNat (48 + r.natAbs % 10)] else Lib.decDigits (r.tdiv 10).natAbs ++ [UInt8.ofNat (48 + r.natAbs % 10)] := by
      by_cases g : r.natAbs < 10
      · rw [if_pos (hz.2 g), dd_small g, Nat.mod_eq_of_lt g]
      · rw [if_neg (fun e => g (hz.1 e)), dd_step g, hq]
    by_cases hL : L = []
    · subst hL
      rw [← h.fst rfl, key]
    · have h0 : r ≠ 0 := by rcases hg with e | e; exact absurd e hL; exact e
      rw [h.rest hL, if_neg h0, key]
      split
      · rfl
      · rw [List.append_assoc]; rfl
theorem DInv.pos {n r : Int} {L : List UInt8} (h : DInv n L r 0) : L ≠ [] ∧ r = 0 := by
  have h1 := h.lt
  have h2 := h.len
  refine ⟨fun e => by subst e; simp at h2, by simp at h1; omega⟩
theorem DInv.done {n : Int} {L : List UInt8} {j : Nat} (h : DInv n L 0 j) (hL : L ≠ []) : Lib.decDigits n.natAbs = L := by rw [h.rest hL, if_pos rfl]
theorem itoa_neg {n : Int} (h : n < 0) : Lib.itoa n = 45 :: Lib.decDigits n.natAbs := by unfold Lib.itoa; rw [if_pos h]
theorem itoa_nonneg {n : Int} (h : ¬ n < 0) : Lib.itoa n = Lib.decDigits n.natAbs := by
  unfold Lib.itoa
  rw [if_neg h]
  congr 1; omega
theorem digit_in (r : Int) : r.natAbs % 10 < 10 := Nat.mod_lt _ (by omega)
theorem bytes_cons (c : UInt8) (L : List UInt8) : Lib.byteCells (c :: L) = [.int .u8 (c.toNat : Int)] ++ Lib.byteCells L := rfl
theorem digit_nat {d : Nat} (h : d < 10) : (UInt8.ofNat (48 + d)).toNat = 48 + d := by
  rw [UInt8.toNat_ofNat']; omega
theorem tdiv_bd {r : Int} (h1 : -9223372036854775808 ≤ r) (h2 : r ≤ 9223372036854775807) : -9223372036854775808 ≤ r.tdiv 10 ∧ r.tdiv 10 ≤ 9223372036854775807 := by
  have hq : (r.tdiv 10).natAbs = r.natAbs / 10 := Int.natAbs_tdiv r 10
  omega
theorem tmod_pos {r : Int} (h : 0 ≤ r) : r.tmod 10 = ((r.natAbs % 10 : Nat) : Int) ∧ r % 10 = ((r.natAbs % 10 : Nat) : Int) ∧ r / 10 = r.tdiv 10 := by
  rw [Int.tmod_eq_emod_of_nonneg h, Int.tdiv_eq_ediv_of_nonneg h]
  omega
theorem tmod_neg {r : Int} (h : r < 0) : r.tmod 10 = -((r.natAbs % 10 : Nat) : Int) := by
  obtain ⟨m, rfl⟩ : ∃ m : Nat, r = -(m : Int) := ⟨r.natAbs, by omega⟩
  rw [Int.neg_tmod, Int.tmod_eq_emod_of_nonneg (by omega), Int.natAbs_neg, Int.natAbs_natCast]
  omega
end Go.Fl
end

/-
  PLAIN LAWS: the text of a list of integers. (No program here.)
-/
section
set_option linter.unusedVariables false
set_option linter.unusedSimpArgs false
namespace Go.Fl
open Go Go.RowKit

theorem dd_len : ∀ (k u : Nat), u < 10 ^ (k + 1) → (Lib.decDigits u).length ≤ k + 1
  | 0, u, h => by rw [dd_small (by simpa using h)]; simp
  | k + 1, u, h => by
    by_cases g : u < 10
    · rw [dd_small g]; simp
    · rw [dd_step g, List.length_append]
      have := dd_len k (u / 10) (by rw [Nat.pow_succ] at h; omega)
      simp only [List.length_singleton]; omega
theorem itoa_len {n : Int} (h1 : -9223372036854775808 ≤ n) (h2 : n ≤ 9223372036854775807) : (Lib.itoa n).length ≤ 20 := by
  have e : (10 : Nat) ^ (18 + 1) = 10000000000000000000 := by decide
  by_cases h : n < 0
  · rw [itoa_neg h]
    have := dd_len 18 n.natAbs (by rw [e]; omega)
    simp; omega
  · rw [itoa_nonneg h]
    have := dd_len 18 n.natAbs (by rw [e]; omega)
    omega
theorem join_snoc (x : List UInt8) (r : List (List UInt8)) (y sep : List UInt8) : Lib.join (x :: r ++ [y]) sep = Lib.join (x :: r) sep ++ (sep ++ y) := by
  rw [List.cons_append, Lib.join_cons, Lib.join_cons]
  unfold Lib.joinTail
  rw [List.map_append, List.flatten_append, List.append_assoc]
  simp
/-- the texts, with a comma between two -/
def tx (f : Nat → List UInt8) : Nat → List UInt8
  | 0 => []
  | 1 => f 0
  | k + 2 => tx f (k + 1) ++ 44 :: f (k + 1)
theorem tx_succ (f : Nat → List UInt8) {k : Nat} (h : 1 ≤ k) : tx f (k + 1) = tx f k ++ 44 :: f k := by
  obtain ⟨j, rfl⟩ : ∃ j, k = j + 1 := ⟨k - 1, by omega⟩
  rfl
theorem tx_join (f : Nat → List UInt8) (k : Nat) : tx f (k + 1) = Lib.join ((List.range (k + 1)).map f) [44] := by
  induction k with
  | zero => simp [tx, Lib.join_one]
  | succ k ih =>
    rw [List.range_succ, List.map_append, tx, ih]
    obtain ⟨x, r, e⟩ : ∃ x r, (List.range (k + 1)).map f = x :: r := by
      cases hL : (List.range (k + 1)).map f with
      | nil => have := congrArg List.length hL; simp at this
      | cons x r => exact ⟨x, r, rfl⟩
    rw [e, List.map_singleton, join_snoc]
    rfl
theorem tx_len (f : Nat → List UInt8) (m n : Nat) (h : ∀ i, i < n → (f i).length ≤ m) : ∀ k, k ≤ n → (tx f k).length ≤ (m + 1) * k
  | 0, _ => by simp [tx]
  | 1, hk => by have := h 0 (by omega); simp only [tx]; omega
  | k + 2, hk => by
    have h1 := tx_len f m n h (k + 1) (by omega)
    have h2 := h (k + 1) (by omega)
    simp only [tx, List.length_append, List.length_cons]
    have : (m + 1) * (k + 2) = (m + 1) * (k + 1) + (m + 1) := by rw [Nat.mul_succ]
    omega
/-- 'none' for no text -/
def txt (f : Nat → List UInt8) (n : Nat) : List UInt8 := if n = 0 then [110, 111, 110, 101] else tx f n
/-- the row of the texts -/
def strs (f : Nat → List UInt8) (n : Nat) : List ByteArray := (List.range n).map fun i => ⟨(f i).toArray⟩
theorem strs_len (f : Nat → List UInt8) (n : Nat) : (strs f n).length = n := by simp [strs]
theorem strs_at (f : Nat → List UInt8) {n j : Nat} (h : j < n) : (strs f n)[j]? = some ⟨(f j).toArray⟩ := by simp [strs, h]
theorem strs_lists (f : Nat → List UInt8) (n : Nat) : (strs f n).map (·.data.toList) = (List.range n).map f := by simp [strs, Function.comp_def]
theorem strs_succ (f : Nat → List UInt8) (n : Nat) : (strs f (n + 1)).map Value.string = (strs f n).map Value.string ++ [.string ⟨(f n).toArray⟩] := by
  unfold strs; rw [List.range_succ]; simp
theorem txt_join (f : Nat → List UInt8) {n : Nat} (h : 1 ≤ n) : Lib.join ((strs f n).map (·.data.toList)) [44] = txt f n := by
  obtain ⟨k, rfl⟩ : ∃ k, n = k + 1 := ⟨n - 1, by omega⟩
  rw [strs_lists, ← tx_join]
  rfl
end Go.Fl
end

/-
  PLAIN LAWS: the number whose decimal text a text is. (No program here.)
-/
section
set_option linter.unusedVariables false
set_option linter.unusedSimpArgs false
namespace Go.Fl
open Go Go.RowKit

def inD (x lo hi : Int) : Bool := decide (lo ≤ x) && decide (x ≤ hi)
theorem inD_iff {x lo hi : Int} : inD x lo hi = true ↔ lo ≤ x ∧ x ≤ hi := by unfold inD; simp
abbrev inV (v : Int) : Bool := inD v (-1000000000000000) 1000000000000000
def dstep (a : Nat) (c : UInt8) : Nat := if 48 ≤ c.toNat ∧ c.toNat ≤ 57 then 10 * a + (c.toNat - 48) else a
def valD (l : List UInt8) : Nat := l.foldl dstep 0
def valS (l : List UInt8) : Int := if l.getD 0 0 = 45 then -(valD l : Int) else (valD l : Int)
def decB (l : List UInt8) : Bool := inV (valS l) && (Lib.itoa (valS l) == l)
theorem valD_snoc (l : List UInt8) (c : UInt8) : valD (l ++ [c]) = dstep (valD l) c := by unfold valD; rw [List.foldl_append]; rfl
theorem valD_take {l : List UInt8} {k : Nat} (h : k < l.length) : valD (l.take (k + 1)) = dstep (valD (l.take k)) (l.getD k 0) := by
  rw [List.take_add_one, List.getElem?_eq_getElem h, List.getD_eq_getElem?_getD, List.getElem?_eq_getElem h]
  exact valD_snoc _ _
theorem dstep_digit {a d : Nat} (h : d < 10) : dstep a (UInt8.ofNat (48 + d)) = 10 * a + d := by
  unfold dstep
  rw [digit_nat h, if_pos (by omega)]
  omega
theorem valD_dd : ∀ (u : Nat), valD (Lib.decDigits u) = u := by
  intro u
  induction u using Nat.strongRecOn with
  | ind u ih =>
    by_cases h : u < 10
    · rw [dd_small h]
      show dstep 0 _ = _
      rw [dstep_digit h]; omega
    · rw [dd_step h, valD_snoc, ih (u / 10) (by omega), dstep_digit (by omega)]
      omega
theorem dd_digits : ∀ (u : Nat), ∀ c ∈ Lib.decDigits u, 48 ≤ c.toNat ∧ c.toNat ≤ 57 := by
  intro u
  induction u using Nat.strongRecOn with
  | ind u ih =>
    intro c hc
    by_cases h : u < 10
    · rw [dd_small h] at hc
      obtain rfl := List.mem_singleton.1 hc
      rw [digit_nat h]; omega
    · rw [dd_step h, List.mem_append] at hc
      rcases hc with hc | hc
      · exact ih (u / 10) (by omega) c hc
      · obtain rfl := List.mem_singleton.1 hc
        rw [digit_nat (by omega)]; omega
theorem dd_ne (u : Nat) : Lib.decDigits u ≠ [] := by
  by_cases h : u < 10
  · rw [dd_small h]; simp
  · rw [dd_step h]; simp
theorem dd_head (u : Nat) : ∃ c r, Lib.decDigits u = c :: r ∧ 48 ≤ c.toNat ∧ c.toNat ≤ 57 := by
  cases hd : Lib.decDigits u with
  | nil => exact absurd hd (dd_ne u)
  | cons c r => exact ⟨c, r, rfl, dd_digits u c (by rw [hd]; simp)⟩
theorem valS_itoa (v : Int) : valS (Lib.itoa v) = v := by
  by_cases h : v < 0
  · rw [itoa_neg h]
    unfold valS
    rw [if_pos (by rfl)]
    have e : valD (45 :: Lib.decDigits v.natAbs) = valD (Lib.decDigits v.natAbs) := rfl
    rw [e, valD_dd]; omega
  · rw [itoa_nonneg h]
    obtain ⟨c, r, e, h1, h2⟩ := dd_head v.natAbs
    unfold valS
    rw [if_neg (by rw [e]; intro g; have : c = 45 := g; subst this; revert h1; decide), valD_dd]; omega
theorem parse_app (M : Nat) : ∀ (xs ys : List UInt8) (acc a : Nat), Lib.parseUintM M acc xs = .ok a → Lib.parseUintM M acc (xs ++ ys) = Lib.parseUintM M a ys
  | [], ys, acc, a, h => by
    simp only [Lib.parseUintM] at h
    injection h with h
    rw [h]; rfl
  | c :: r, ys, acc, a, h => by
    simp only [Lib.parseUintM, List.cons_append] at h ⊢
    split at h
    · rename_i g; rw [if_pos g]
      split at h
      · cases h
      · rename_i g2; rw [if_neg g2]
        split at h
        · cases h
        · rename_i g3; rw [if_neg g3]
          exact parse_app M r ys _ a h
    · cases h
theorem parse_one {M acc d : Nat} (h : d < 10) (h1 : acc < 1844674407370955162) (h2 : acc * 10 + d ≤ M) : Lib.parseUintM M acc [UInt8.ofNat (48 + d)] = .ok (acc * 10 + d) := by
  simp only [Lib.parseUintM]
  rw [digit_nat h, if_pos (by omega), if_neg (by omega), show 48 + d - 48 = d by omega, if_neg (by omega)]
theorem parse_dd {M : Nat} : ∀ (u : Nat), u ≤ M → u < 10000000000000000000 → Lib.parseUintM M 0 (Lib.decDigits u) = .ok u := by
  intro u
  induction u using Nat.strongRecOn with
  | ind u ih =>
    intro hM hu
    by_cases h : u < 10
    · rw [dd_small h, parse_one h (by omega) (by omega)]; congr 1; omega
    · rw [dd_step h, parse_app _ _ _ _ (u / 10) (ih (u / 10) (by omega) (by omega) (by omega)), parse_one (by omega) (by omega) (by omega)]
      congr 1; omega
theorem parse_itoa {v : Int} (h1 : -1000000000000000 ≤ v) (h2 : v ≤ 1000000000000000) : Lib.parseIntB 64 (Lib.itoa v) = .ok v := by
  have hu : Lib.parseUintB 64 (Lib.decDigits v.natAbs) = .ok v.natAbs := by
    unfold Lib.parseUintB
    rw [if_neg (dd_ne _)]
    exact parse_dd _ (by have : (2 : Nat) ^ 64 - 1 = 18446744073709551615 := by decide
                         omega) (by omega)
  have e63 : (2 : Nat) ^ (64 - 1) = 9223372036854775808 := by decide
  by_cases h : v < 0
  · rw [itoa_neg h, Lib.parseIntB_minus, hu]
    simp only [Lib.signedC, e63]
    rw [if_neg (by omega)]
    congr 1; omega
  · rw [itoa_nonneg h]
    obtain ⟨c, r, e, g1, g2⟩ := dd_head v.natAbs
    rw [e] at hu
    rw [e, Lib.parseIntB_plain 64 c r (by omega) (by omega), hu]
    simp only [Lib.signlessC, e63]
    rw [if_neg (by omega)]
    congr 1; omega
theorem decB_iff {l : List UInt8} : decB l = true ↔ ∃ v, inV v = true ∧ Lib.itoa v = l := by
  unfold decB
  rw [Bool.and_eq_true, beq_iff_eq]
  constructor
  · rintro ⟨h1, h2⟩; exact ⟨_, h1, h2⟩
  · rintro ⟨v, h1, rfl⟩; rw [valS_itoa]; exact ⟨h1, rfl⟩
theorem decB_parse {l : List UInt8} (h : decB l = true) : Lib.parseIntB 64 l = .ok (valS l) := by
  unfold decB at h
  rw [Bool.and_eq_true, beq_iff_eq] at h
  obtain ⟨h1, h2⟩ := inD_iff.1 h.1
  rw [← h.2, parse_itoa h1 h2, h.2]
theorem decB_len {l : List UInt8} (h : decB l = true) : 1 ≤ l.length ∧ l.length ≤ 17 := by
  obtain ⟨v, h1, rfl⟩ := decB_iff.1 h
  obtain ⟨h1, h2⟩ := inD_iff.1 h1
  have e : (10 : Nat) ^ (15 + 1) = 10000000000000000 := by decide
  have hl := dd_len 15 v.natAbs (by rw [e]; omega)
  have hn : 0 < (Lib.decDigits v.natAbs).length := List.length_pos_iff.2 (dd_ne _)
  by_cases hv : v < 0
  · rw [itoa_neg hv]; simp; omega
  · rw [itoa_nonneg hv]; omega
theorem valD_bd : ∀ (l : List UInt8), valD l < 10 ^ l.length := by
  intro l
  induction h : l.length generalizing l with
  | zero => rw [List.length_eq_zero_iff.1 h]; decide
  | succ k ih =>
    obtain ⟨m, c, rfl⟩ : ∃ m c, l = m ++ [c] := by
      rcases List.eq_nil_or_concat l with e | ⟨m, c, e⟩
      · rw [e] at h; cases h
      · exact ⟨m, c, by simpa using e⟩
    rw [List.length_append] at h
    have := ih m (by simpa using h)
    rw [valD_snoc, Nat.pow_succ]
    unfold dstep
    split <;> omega
end Go.Fl
end

/-
  PLAIN LAWS: a text cut at each comma. (No program here.)
-/
section
set_option linter.unusedVariables false
set_option linter.unusedSimpArgs false
namespace Go.Fl
open Go Go.RowKit

/-- the pieces, of which the first begins with 'cur' -/
def pc (c : UInt8) (cur : List UInt8) : List UInt8 → List (List UInt8)
  | [] => [cur]
  | b :: l => if b = c then cur :: pc c [] l else pc c (cur ++ [b]) l
theorem pc_ne (c : UInt8) : ∀ (l cur : List UInt8), pc c cur l ≠ []
  | [], cur => by simp [pc]
  | b :: l, cur => by
    rw [pc]
    split
    · simp
    · exact pc_ne c l _
/-- what follows of the first place of the byte -/
theorem pc_index (c : UInt8) : ∀ (l cur : List UInt8), (Lib.index l [c] = -1 → pc c cur l = [cur ++ l]) ∧ (∀ i : Nat, Lib.index l [c] = i → pc c cur l = (cur ++ l.take i) :: pc c [] (l.drop (i + 1)) ∧ i < l.length)
  | [], cur => by
    refine ⟨fun _ => by simp [pc], fun i h => ?_⟩
    simp [Lib.index] at h
  | b :: l, cur => by
    by_cases hb : b = c
    · subst hb
      have hix : Lib.index (b :: l) [b] = ((0 : Nat) : Int) := by rw [Lib.index]; simp [List.isPrefixOf]
      refine ⟨fun h => by rw [hix] at h; omega, fun i h => ?_⟩
      rw [hix] at h
      obtain rfl : i = 0 := by omega
      simp [pc]
    · have hp : ([c] : List UInt8).isPrefixOf (b :: l) = false := by simp [List.isPrefixOf, Ne.symm hb]
      have hix : Lib.index (b :: l) [c] = if Lib.index l [c] == -1 then -1 else Lib.index l [c] + 1 := by rw [Lib.index, hp]; simp
      obtain ⟨h1, h2⟩ := pc_index c l (cur ++ [b])
      have hge := Lib.index_ge l [c]
      refine ⟨fun h => ?_, fun i h => ?_⟩
      · rw [hix] at h
        by_cases hm : Lib.index l [c] = -1
        · rw [pc, if_neg hb, h1 hm]; simp
        · rw [if_neg (by simpa using hm)] at h; omega
      · rw [hix] at h
        by_cases hm : Lib.index l [c] = -1
        · rw [if_pos (by simpa using hm)] at h; omega
        · rw [if_neg (by simpa using hm)] at h
          obtain ⟨j, rfl⟩ : ∃ j, i = j + 1 := ⟨i - 1, by omega⟩
          obtain ⟨g1, g2⟩ := h2 j (by omega)
          refine ⟨?_, by simp; omega⟩
          rw [pc, if_neg hb, g1]
          simp
theorem pc_split (c : UInt8) : ∀ (n : Nat) (l : List UInt8), l.length ≤ n → Lib.splitK [c] 0 (Lib.count l [c]) l = pc c [] l
  | 0, l, h => by
    obtain rfl := List.length_eq_zero_iff.1 (Nat.le_zero.1 h)
    rw [Lib.count_miss (by simp [Lib.index])]
    simp [Lib.splitK, pc]
  | n + 1, l, h => by
    obtain ⟨h1, h2⟩ := pc_index c l []
    by_cases hm : Lib.index l [c] = -1
    · rw [Lib.count_miss hm, h1 hm]; simp [Lib.splitK]
    · have hge := Lib.index_ge l [c]
      obtain ⟨i, hi⟩ : ∃ i : Nat, Lib.index l [c] = i := ⟨(Lib.index l [c]).toNat, by omega⟩
      obtain ⟨g1, g2⟩ := h2 i hi
      have e1 : ([c] : List UInt8).length = 1 := rfl
      rw [Lib.count_hit (by simp) hi, g1, Nat.add_comm 1, Lib.splitK, if_neg (by simpa using hm), hi, e1]
      have e2 : ((i : Nat) : Int).toNat = i := by omega
      rw [e2, pc_split c n (l.drop (i + 1)) (by rw [List.length_drop]; omega)]
      simp
/-- the pieces -/
abbrev pcs (l : List UInt8) : List (List UInt8) := pc 44 [] l
theorem pcs_splitB (l : List UInt8) : (Lib.splitB ⟨#[44]⟩ 0 (Lib.countB ⟨l.toArray⟩ ⟨#[44]⟩) ⟨l.toArray⟩) = (pcs l).map fun x => ⟨x.toArray⟩ := by
  have h := Lib.splitB_data ⟨#[44]⟩ 0 (Lib.countB ⟨l.toArray⟩ ⟨#[44]⟩) ⟨l.toArray⟩
  have e : Lib.splitK (⟨#[44]⟩ : ByteArray).data.toList 0 (Lib.countB ⟨l.toArray⟩ ⟨#[44]⟩) (⟨l.toArray⟩ : ByteArray).data.toList = pcs l := pc_split 44 l.length l (Nat.le_refl _)
  rw [e] at h
  rw [← h, List.map_map]
  conv => lhs; rw [← List.map_id (Lib.splitB _ _ _ _)]
  refine List.map_congr_left fun x _ => ?_
  obtain ⟨⟨y⟩⟩ := x
  rfl
theorem pcs_count (l : List UInt8) : Lib.countB ⟨l.toArray⟩ ⟨#[44]⟩ + 1 = (pcs l).length := by
  have h := Lib.splitB_all ⟨#[44]⟩ (by decide) 0 _ ⟨l.toArray⟩ rfl
  rw [pcs_splitB, List.length_map] at h
  exact h.symm
theorem pc_len (c : UInt8) : ∀ (l cur : List UInt8), (pc c cur l).length ≤ l.length + 1
  | [], cur => by simp [pc]
  | b :: l, cur => by
    rw [pc]
    split
    · have := pc_len c l []; simp; omega
    · have := pc_len c l (cur ++ [b]); simp; omega
theorem pc_sub (c : UInt8) : ∀ (l cur : List UInt8), ∀ x ∈ pc c cur l, x.length ≤ cur.length + l.length
  | [], cur, x, h => by
    simp [pc] at h; subst h; simp
  | b :: l, cur, x, h => by
    rw [pc] at h
    split at h
    · rcases List.mem_cons.1 h with rfl | h
      · omega
      · have := pc_sub c l [] x h; simp at this ⊢; omega
    · have := pc_sub c l _ x h; simp at this ⊢; omega
/-- the loop of the cut: 'm' pieces are laid, the next begins at 'f', the eye is at 'k' -/
structure CInv (l : List UInt8) (m f k : Nat) : Prop where
  fk : f ≤ k
  kn : k ≤ l.length
  eq : (pcs l).drop m = pc 44 ((l.take k).drop f) (l.drop k)
theorem CInv.start (l : List UInt8) : CInv l 0 0 0 := ⟨Nat.le_refl _, Nat.zero_le _, by simp⟩
theorem drop_cons {α : Type} {P r : List α} {m : Nat} {x : α} (h : P.drop m = x :: r) : m < P.length ∧ P[m]? = some x ∧ P.drop (m + 1) = r := by
  have h1 : m < P.length := by
    rcases Nat.lt_or_ge m P.length with g | g
    · exact g
    · rw [List.drop_eq_nil_of_le g] at h; cases h
  refine ⟨h1, ?_, ?_⟩
  · rw [← List.head?_drop, h]; rfl
  · rw [← List.tail_drop, h]; rfl
theorem cur_len {l : List UInt8} {f k : Nat} (hk : k ≤ l.length) : ((l.take k).drop f).length = k - f := by
  rw [List.length_drop, List.length_take]; omega
theorem CInv.hit {l : List UInt8} {m f k : Nat} (h : CInv l m f k) (hk : k < l.length) (hc : l.getD k 0 = 44) : m < (pcs l).length ∧ (pcs l)[m]? = some ((l.take k).drop f) ∧ CInv l (m + 1) (k + 1) (k + 1) := by
  have e := h.eq
  rw [List.drop_eq_getElem_cons hk, pc, if_pos (by rw [List.getD_eq_getElem?_getD, List.getElem?_eq_getElem hk] at hc; exact hc)] at e
  obtain ⟨h1, h2, h3⟩ := drop_cons e
  refine ⟨h1, h2, Nat.le_refl _, hk, ?_⟩
  have e9 : (l.take (k + 1)).drop (k + 1) = [] := List.drop_eq_nil_of_le (by rw [List.length_take]; omega)
  rw [h3, e9]
theorem CInv.miss {l : List UInt8} {m f k : Nat} (h : CInv l m f k) (hk : k < l.length) (hc : l.getD k 0 ≠ 44) : CInv l m f (k + 1) := by
  have e := h.eq
  rw [List.drop_eq_getElem_cons hk, pc, if_neg (by rw [List.getD_eq_getElem?_getD, List.getElem?_eq_getElem hk] at hc; exact hc)] at e
  refine ⟨by have := h.fk; omega, hk, ?_⟩
  rw [e, List.take_add_one, List.getElem?_eq_getElem hk, List.drop_append_of_le_length (by rw [List.length_take]; have := h.fk; omega)]
  rfl
theorem CInv.last {l : List UInt8} {m f k : Nat} (h : CInv l m f k) (hk : k = l.length) : m + 1 = (pcs l).length ∧ (pcs l)[m]? = some ((l.take k).drop f) := by
  have e := h.eq
  have e9 : l.drop k = [] := List.drop_eq_nil_of_le (by omega)
  rw [e9, pc] at e
  obtain ⟨h1, h2, h3⟩ := drop_cons e
  refine ⟨?_, h2⟩
  have := congrArg List.length h3
  rw [List.length_drop] at this
  simp at this
  omega
/-- the reading of a list -/
def noneB (l : List UInt8) : Bool := l == [110, 111, 110, 101]
def pieceN (l : List UInt8) : Nat → List UInt8 := fun i => (pcs l).getD i []
def readB (l : List UInt8) : Bool := noneB l || (decide ((pcs l).length ≤ 64) && allB (fun i => decB (pieceN l i)) (pcs l).length)
def readN (l : List UInt8) : Nat := if readB l && !noneB l then (pcs l).length else 0
abbrev readZ (l : List UInt8) : Nat → Int := fun i => valS (pieceN l i)
theorem piece_len (l : List UInt8) (i : Nat) : (pieceN l i).length ≤ l.length := by
  unfold pieceN
  rw [List.getD_eq_getElem?_getD]
  cases h : (pcs l)[i]? with
  | none => simp
  | some x =>
    have := pc_sub 44 l [] x (List.mem_of_getElem? h)
    simpa using this
theorem piece_at {l : List UInt8} {i : Nat} {x : List UInt8} (h : (pcs l)[i]? = some x) : pieceN l i = x := by
  unfold pieceN; rw [List.getD_eq_getElem?_getD, h]; rfl
end Go.Fl
end

/-
  A ROW THAT IS MADE NUMBER BY NUMBER IN A FIELD OF A STRUCT OF THE CALL's OWN: what holds after 'k' of them. (No program here.)
-/
section
set_option linter.unusedVariables false
set_option linter.unusedSimpArgs false
namespace Go.Fl
open Go Ieee Go.RowKit

/-- of what was there before nothing has turned but for one block -/
structure BelX (bs : Option Nat) (w w' : World) : Prop where
  os : w'.os = w.os
  tape : w'.tape = w.tape
  output : w'.output = w.output
  size : w.heap.size ≤ w'.heap.size
  block : ∀ j, j < w.heap.size → some j ≠ bs → w'.heap[j]? = w.heap[j]?
theorem BelX.of {bs : Option Nat} {w w' : World} (h : Bel w w') : BelX bs w w' := ⟨h.os, h.tape, h.output, h.size, fun j hj _ => h.block j hj⟩
theorem BelX.bel {w w' : World} (h : BelX none w w') : Bel w w' := ⟨h.os, h.tape, h.output, h.size, fun j hj => h.block j hj (by simp)⟩
theorem BelX.refl (bs : Option Nat) (w : World) : BelX bs w w := .of (Bel.refl w)
theorem BelX.trans {bs : Option Nat} {a b c : World} (h : BelX bs a b) (k : BelX bs b c) : BelX bs a c :=
  ⟨k.os.trans h.os, k.tape.trans h.tape, k.output.trans h.output, Nat.le_trans h.size k.size, fun j hj hne => (k.block j (Nat.lt_of_lt_of_le hj h.size) hne).trans (h.block j hj hne)⟩
theorem BelX.cell {bs : Option Nat} {w w' : World} (h : BelX bs w w') {p : Addr} (hp : p.block < w.heap.size) (hne : some p.block ≠ bs) : w'.cell? p = w.cell? p := World.cell?_of_block (w := w) (h.block _ hp hne)
theorem BelX.frozen {bs : Option Nat} {w w' : World} (h : BelX bs w w') {p : Addr} (hp : p.block < w.heap.size) (hne : some p.block ≠ bs) : w'.frozen? p = w.frozen? p := World.frozen?_of_block (w := w) (h.block _ hp hne)
theorem BelX.below {bs : Option Nat} {w w' : World} (h : BelX bs w w') {B : Nat} (hB : B ≤ w.heap.size) (hb : ∀ j, bs = some j → B ≤ j) : Below B w w' :=
  ⟨h.os, h.tape, h.output, h.size, fun j hj => h.block j (by omega) (fun e => by have := hb j e.symm; omega)⟩

theorem own_belx {bs : Option Nat} {wr w1 : World} {base : Nat} {e : TypeId} {size : Nat} {v : Value} {n : Nat} {xs : List Value} (h : wr.ownsRow base e size v n xs) (hX : BelX bs wr w1) (hbs : ∀ j, bs = some j → j < base) : w1.ownsRow base e size v n xs := by
  refine ⟨h.1, h.2.imp id ?_⟩
  rintro ⟨g, cap, cur, h1, h2, h3, h4⟩
  refine ⟨g, cap, cur, h1, h2, ?_, h4⟩
  rw [hX.block g (Array.getElem?_eq_some_iff.1 h3).1 (fun e => by have := hbs g e.symm; omega)]
  exact h3

/-- after 'k' numbers: the struct lies in block 'hb', its row is the call's own -/
structure MSt (w0 : World) (bs : Option Nat) (Inv : Nat → World → Prop) (F : Nat → Nat) (W H : Int) (T E : TypeId) (hb : Nat) (k : Nat) (wr : World) (v : Value) (ws : List Nat) : Prop where
  box : wr.heap[hb]? = some (.cells #[.int .i64 W, .int .i64 H, v] T (0, 0))
  own : wr.ownsRow w0.heap.size E 1 v k (ws.map (Value.float .f32))
  far : v.ownBlock ≠ some hb
  len : ws.length = k
  is : ∀ i, i < k → Is .f32 (ws.getD i 0) (F i)
  inv : Inv k wr
  bel : BelX bs w0 wr
  size : hb + 1 ≤ wr.heap.size

variable {w0 : World} {bs : Option Nat} {Inv : Nat → World → Prop} {F : Nat → Nat} {W H : Int} {T E : TypeId} {hb k : Nat} {wr : World} {v : Value} {ws : List Nat}

theorem MSt.c2 (h : MSt w0 bs Inv F W H T E hb k wr v ws) : wr.cell? ⟨hb, 2, none⟩ = some v := by unfold World.cell?; simp [h.box]
theorem MSt.c0 (h : MSt w0 bs Inv F W H T E hb k wr v ws) : wr.cell? ⟨hb, 0, none⟩ = some (.int .i64 W) := by unfold World.cell?; simp [h.box]
theorem MSt.c1 (h : MSt w0 bs Inv F W H T E hb k wr v ws) : wr.cell? ⟨hb, 1, none⟩ = some (.int .i64 H) := by unfold World.cell?; simp [h.box]
theorem cells_free {w : World} {b : Nat} {cs : Array Value} {T : TypeId} (h : w.heap[b]? = some (.cells cs T (0, 0))) (j : Nat) : w.frozen? ⟨b, j, none⟩ = false := by
  unfold World.frozen?; simp [h]
theorem heap_set3 {w : World} {b : Nat} {x y z u : Value} {T : TypeId} (h : w.heap[b]? = some (.cells #[x, y, z] T (0, 0))) : (w.setCell ⟨b, 2, none⟩ u).heap[b]? = some (.cells #[x, y, u] T (0, 0)) := by
  show (w.heap.modify b _)[b]? = _
  rw [Array.getElem?_modify, if_pos rfl, h]
  rfl
theorem heap_setOther {w : World} {p : Addr} {v : Value} {j : Nat} (h : p.block ≠ j) : (w.setCell p v).heap[j]? = w.heap[j]? := by
  show (w.heap.modify p.block _)[j]? = _
  rw [Array.getElem?_modify, if_neg h]
theorem ownsRow_setOther {w : World} {base : Nat} {e : TypeId} {size : Nat} {v : Value} {n : Nat} {xs : List Value} (h : w.ownsRow base e size v n xs) {p : Addr} (hp : v.ownBlock ≠ some p.block) (u : Value) : (w.setCell p u).ownsRow base e size v n xs := by
  refine ⟨h.1, h.2.imp id ?_⟩
  rintro ⟨g, cap, cur, rfl, h2, h3, h4⟩
  refine ⟨g, cap, cur, rfl, h2, ?_, h4⟩
  rw [heap_setOther (fun e => hp (by rw [e]; rfl))]; exact h3
/-- a block of another type is no row of these -/
theorem own_far {w : World} {base : Nat} {e T : TypeId} {size : Nat} {v : Value} {n hb : Nat} {xs : List Value} {cs : Array Value} (h : w.ownsRow base e size v n xs) (hT : T ≠ e) (hb' : w.heap[hb]? = some (.cells cs T (0, 0))) : v.ownBlock ≠ some hb := by
  intro he
  rcases h.2 with ⟨rfl, _⟩ | ⟨g, cap, cur, rfl, h2, h3, _⟩
  · cases he
  · cases he
    rw [h3] at hb'
    injection hb' with h1
    injection h1 with _ h5
    exact hT h5.symm

theorem MSt.keep (h : MSt w0 bs Inv F W H T E hb k wr v ws) (hh : w0.heap.size ≤ hb) (hbs : ∀ j, bs = some j → j < w0.heap.size) (w1 : World) (hX : BelX bs wr w1) :
    w1.heap[hb]? = some (.cells #[.int .i64 W, .int .i64 H, v] T (0, 0)) ∧ w1.ownsRow w0.heap.size E 1 v k (ws.map (Value.float .f32)) ∧ hb + 1 ≤ w1.heap.size := by
  have hs := h.size
  refine ⟨?_, own_belx h.own hX (fun j hj => by have := hbs j hj; omega), Nat.le_trans hs hX.size⟩
  rw [hX.block hb (by omega) (fun e => by have := hbs hb e.symm; omega)]
  exact h.box
theorem grown_keep {w1 w2 : World} {o : Obj} {hb : Nat} {row : Option Nat} (hc : w1.heap[hb]? = some o) (hs : hb + 1 ≤ w1.heap.size) (hg : w1.grownBy w2 row) (hrow : row ≠ some hb) : w2.heap[hb]? = some o := by
  rw [hg.block hb (by omega) (fun e => hrow e.symm)]; exact hc
theorem box_c2 {w : World} {hb : Nat} {x y v : Value} {T : TypeId} (h : w.heap[hb]? = some (.cells #[x, y, v] T (0, 0))) : w.cell? ⟨hb, 2, none⟩ = some v := by unfold World.cell?; simp [h]
theorem own_succ {w : World} {base : Nat} {e : TypeId} {size : Nat} {v : Value} {n : Nat} {xs : List Value} (h : w.ownsRow base e size v (n + 1) xs) : ∃ g cap, v = .slice (some ⟨g, 0, none⟩) (n + 1) cap := by
  rcases h.2 with ⟨_, e⟩ | ⟨g, cap, cur, h1, _⟩
  · omega
  · exact ⟨g, cap, h1⟩
theorem own_row {w : World} {base : Nat} {e : TypeId} {size : Nat} {v : Value} {n : Nat} {xs : List Value} (h : w.ownsRow base e size v n xs) : ∀ j, v.ownBlock = some j → base ≤ j := fun j hj => (World.ownsRow.lt h j hj).1

/-- one number more: 'w1' behind the call that gave it, 'w2' behind the append -/
theorem MSt.next (h : MSt w0 bs Inv F W H T E hb k wr v ws) (hh : w0.heap.size ≤ hb) (hTE : T ≠ E) (hstab : ∀ k wr w', Inv k wr → Below w0.heap.size wr w' → Inv k w') (hbs : ∀ j, bs = some j → j < w0.heap.size)
    {w1 w2 : World} {r : Nat} {v2 : Value} (hX : BelX bs wr w1) (hI : Inv (k + 1) w1) (hr : Is .f32 r (F k))
    (hown : w2.ownsRow w0.heap.size E 1 v2 (k + 1) (ws.map (Value.float .f32) ++ [.float .f32 r])) (hg : w1.grownBy w2 v.ownBlock) :
    MSt w0 bs Inv F W H T E hb (k + 1) (w2.setCell ⟨hb, 2, none⟩ v2) v2 (ws ++ [r]) := by
  have hs1 := hX.size
  have hsz := h.size
  have hrow := own_row h.own
  have hsz0 := h.bel.size
  have g0 : Below w0.heap.size w1 w2 := ((Below.refl w0.heap.size w1).grown hg (by omega) hrow)
  have ebox : w2.heap[hb]? = some (.cells #[.int .i64 W, .int .i64 H, v] T (0, 0)) := by
    rw [hg.block hb (by omega) (fun e => h.far e.symm), hX.block hb (by omega) (fun e => by have := hbs hb e.symm; omega)]; exact h.box
  have hfar := own_far hown hTE ebox
  refine ⟨heap_set3 ebox, ?_, hfar, by simp [h.len], fun i hi => ?_, ?_, ?_, ?_⟩
  · rw [List.map_append]
    exact ownsRow_setOther hown hfar _
  · by_cases g : i < k
    · have e : (ws ++ [r]).getD i 0 = ws.getD i 0 := by simp [List.getD, List.getElem?_append, h.len, g]
      rw [e]; exact h.is i g
    · obtain rfl : i = k := by omega
      have e : (ws ++ [r]).getD i 0 = r := by simp [List.getD, List.getElem?_append, h.len]
      rw [e]; exact hr
  · exact hstab _ _ _ hI (g0.setCell (by simp; omega) _)
  · refine ⟨g0.os.trans (hX.os.trans h.bel.os), g0.tape.trans (hX.tape.trans h.bel.tape), g0.output.trans (hX.output.trans h.bel.output), ?_, fun j hj hne => ?_⟩
    · have := g0.size; simp [World.setCell]; omega
    · rw [heap_setOther (by simp; omega), g0.block j (by omega), hX.block j (by omega) hne]
      exact h.bel.block j hj hne
  · have := hg.size; simp [World.setCell]; omega

theorem mst_orow (h : MSt w0 bs Inv F W H T E hb k wr v ws) (hk : 0 < k) : ∃ g cap, v = .slice (some ⟨g, 0, none⟩) k cap ∧ ORow w0.heap.size wr.heap.size wr (some ⟨g, 0, none⟩) k ws := by
  obtain ⟨h0, h1⟩ := h.own
  rcases h1 with ⟨_, e⟩ | ⟨g, cap, cur, rfl, h2, h3, h4, h5, h6, h7⟩
  · omega
  · have hlt : g < wr.heap.size := (Array.getElem?_eq_some_iff.1 h3).1
    have hown : wr.ownsRow w0.heap.size E 1 (.slice (some ⟨g, 0, none⟩) k cap) k (ws.map (Value.float .f32)) := h.own
    refine ⟨g, cap, rfl, ⟨h.len, fun _ => ⟨g, 0, rfl, hlt, fun i hi => ?_⟩, fun i hi => ?_⟩, fun a ha => by cases ha; exact ⟨h2, hlt, hlt, fun j => cells_free h3 j⟩⟩
    · rw [Nat.zero_add, World.ownsRow.cellAt hown i (by omega)]
      have hl := h.len
      simp [List.getD, hl, hi]
    · have := (h.is i hi).1; rw [w32] at this; exact this

/-- append of one number to a row of the call's own, as a step of a region -/
theorem step_app1 {P : Program} {ops : Array Oper} {o : Oper} {a : Act} {w : World} {K : Act → World → Prop} {Q : Exit → Act → World → Prop} {X : Prop} (s x : Operand) (t : TypeId)
    (base : Nat) (e : TypeId) (i : TypeInfo) (z : Value) (ht : P.underlying t = some (.slice e)) (hi : P.info? e = some i) (hz : i.zero = some z) (hsize : i.size = 1) (hby : i.bytes = 4) (hzs : z.cells.size = 1)
    (v : Value) (n : Nat) (ws : List Nat) (w1 : World) (r : Nat) (hown : w1.ownsRow base e 1 v n (ws.map (Value.float .f32))) (hn : n ≤ 256) (hbase : base ≤ w1.heap.size)
    (hgd : o.guard = none) (ho : o.op = .call { callee := .builtin .append, args := #[s, x], argTypes := #[t, t] })
    (hw : w = w1.alloc (.cells #[.float .f32 r] e (0, 0))) (hs : a.eval s = v) (hx : a.eval x = .slice (some ⟨w1.heap.size, 0, none⟩) 1 1)
    (h : ∀ g cap w', w'.ownsRow base e 1 (.slice (some ⟨g, 0, none⟩) (n + 1) cap) (n + 1) (ws.map (Value.float .f32) ++ [.float .f32 r]) → (w1.alloc (.cells #[.float .f32 r] e (0, 0))).grownBy w' v.ownBlock → K (a.put o.dst (.slice (some ⟨g, 0, none⟩) (n + 1) cap)) w') :
    if Region.wanted o (yielded ops a.tmps) = true then Oper.wp P o a w K Q else X := by
  subst hw
  refine step_append_lies _ hgd s x t ho base e i z 1 4 ht hi hz hsize hby hzs (by omega) v n _ hs (hown.alloc _) ⟨w1.heap.size, 0, none⟩ 1 1 [.float .f32 r] hx rfl
    (World.news_of_block (cs := #[.float .f32 r]) (t := e) (fr := (0, 0)) (heap_alloc_new w1 _)) (by simp [Value.oneCell']) (by omega) (by unfold maxLen; omega) (by omega) (by simp; omega) _ rfl ?_
  intro g cap w' h1 h2 _ _
  exact h g cap w' h1 h2
end Go.Fl
end

/-
  PLAIN LAWS: the digits of a number at base 16. (No program here.)
-/
section
set_option linter.unusedVariables false
set_option linter.unusedSimpArgs false
namespace Go.Fl
open Go Go.RowKit

def hexTab : List UInt8 := [48, 49, 50, 51, 52, 53, 54, 55, 56, 57, 97, 98, 99, 100, 101, 102]
def hexDg (d : Nat) : UInt8 := hexTab.getD d 0
def hexD (u : Nat) : List UInt8 := if h : u < 16 then [hexDg u] else hexD (u / 16) ++ [hexDg (u % 16)]
termination_by u
decreasing_by omega
theorem hexD_small {u : Nat} (h : u < 16) : hexD u = [hexDg u] := by rw [hexD, dif_pos h]
theorem hexD_step {u : Nat} (h : ¬ u < 16) : hexD u = hexD (u / 16) ++ [hexDg (u % 16)] := by rw [hexD, dif_neg h]
structure HInv (n : Nat) (L : List UInt8) (m : Nat) : Prop where
  eq : hexD n = hexD m ++ L
  lt : m < 16 ^ (8 - L.length)
  len : L.length ≤ 7
theorem HInv.start {n : Nat} (h : n < 4294967296) : HInv n [] n := by
  have e : (16 : Nat) ^ (8 - ([] : List UInt8).length) = 4294967296 := by decide
  exact ⟨by simp, by rw [e]; exact h, by simp⟩
theorem HInv.next {n m : Nat} {L : List UInt8} (h : HInv n L m) (hm : ¬ m < 16) : HInv n (hexDg (m % 16) :: L) (m / 16) := by
  have hl : L.length ≤ 6 := by
    rcases Nat.lt_or_ge 6 L.length with g | g
    · exfalso
      have e : L.length = 7 := by have := h.len; omega
      have := h.lt
      rw [e] at this
      omega
    · exact g
  refine ⟨?_, ?_, by simp; omega⟩
  · rw [h.eq, hexD_step hm]; simp
  · have e : 8 - L.length = (8 - (hexDg (m % 16) :: L).length) + 1 := by simp; omega
    have := h.lt
    rw [e, Nat.pow_succ] at this
    exact Nat.div_lt_of_lt_mul (by omega)
theorem HInv.done {n m : Nat} {L : List UInt8} (h : HInv n L m) (hm : m < 16) : hexD n = hexDg m :: L := by rw [h.eq, hexD_small hm]; rfl
/-- the buffer: the last cells hold the digits told so far -/
structure HSt (w wr : World) (T : TypeId) (p : Nat) (L : List UInt8) : Prop where
  bel : Bel w wr
  blk : ∃ cs, wr.heap[w.heap.size]? = some (.cells cs T (0, 0)) ∧ cs.size = 65 ∧ ∀ j, j < L.length → cs[p + j]? = some (.int .u8 ((L.getD j 0).toNat : Int))
theorem heap_setAt {w : World} {b a : Nat} {cs : Array Value} {u : Value} {T : TypeId} (h : w.heap[b]? = some (.cells cs T (0, 0))) : (w.setCell ⟨b, a, none⟩ u).heap[b]? = some (.cells (cs.setIfInBounds a u) T (0, 0)) := by
  show (w.heap.modify b _)[b]? = _
  rw [Array.getElem?_modify, if_pos rfl, h]
  rfl
theorem HSt.cell {w wr : World} {T : TypeId} {p : Nat} {L : List UInt8} (h : HSt w wr T p L) {j : Nat} (hj : j < 65) : ∃ v, wr.cell? ⟨w.heap.size, j, none⟩ = some v := by
  obtain ⟨cs, h1, h2, _⟩ := h.blk
  refine ⟨cs[j]'(by omega), ?_⟩
  unfold World.cell?
  simp [h1, h2, hj]
theorem HSt.thaw {w wr : World} {T : TypeId} {p : Nat} {L : List UInt8} (h : HSt w wr T p L) (j : Nat) : wr.frozen? ⟨w.heap.size, j, none⟩ = false := by
  obtain ⟨cs, h1, _⟩ := h.blk
  exact cells_free h1 j
theorem HSt.next {w wr : World} {T : TypeId} {p : Nat} {L : List UInt8} (h : HSt w wr T (p + 1) L) (hp : p < 65) (c : UInt8) : HSt w (wr.setCell ⟨w.heap.size, p, none⟩ (.int .u8 (c.toNat : Int))) T p (c :: L) := by
  obtain ⟨cs, h1, h2, h3⟩ := h.blk
  refine ⟨h.bel.setCell (Nat.le_refl _) _, _, heap_setAt h1, by simpa using h2, fun j hj => ?_⟩
  cases j with
  | zero => simp [h2, hp]
  | succ j =>
    have := h3 j (by simpa using hj)
    rw [show p + 1 + j = p + (j + 1) by omega] at this
    rw [Array.getElem?_setIfInBounds_ne (by omega), this]
    rfl
theorem HSt.bytes {w wr : World} {T : TypeId} {p : Nat} {L : List UInt8} (h : HSt w wr T p L) : ∀ j (hj : j < L.length), wr.cell? ((⟨w.heap.size, p, none⟩ : Addr).add j) = some (.int .u8 (L[j].toNat : Int)) := by
  intro j hj
  obtain ⟨cs, h1, h2, h3⟩ := h.blk
  have := h3 j hj
  rw [List.getD_eq_getElem?_getD, List.getElem?_eq_getElem hj] at this
  unfold Addr.add
  split
  · rename_i e; subst e; unfold World.cell?; simpa [h1] using this
  · unfold World.cell?; simpa [h1] using this
/-- the last 'k' digits -/
def hexK : Nat → Nat → List UInt8
  | 0, _ => []
  | k + 1, n => hexK k (n / 16) ++ [hexDg (n % 16)]
theorem hexK_len : ∀ k n, (hexK k n).length = k
  | 0, _ => rfl
  | k + 1, n => by simp [hexK, hexK_len k]
theorem hexK_zero : ∀ k, hexK k 0 = List.replicate k 48
  | 0 => rfl
  | k + 1 => by
    rw [hexK, hexK_zero k, List.replicate_succ']
    rfl
theorem hexD_len {n : Nat} : ∀ k, 1 ≤ k → n < 16 ^ k → (hexD n).length ≤ k := by
  intro k
  induction k generalizing n with
  | zero => intro h; omega
  | succ k ih =>
    intro _ hn
    by_cases h : n < 16
    · rw [hexD_small h]; simp
    · rw [hexD_step h, List.length_append, List.length_singleton]
      have hk : 1 ≤ k := by
        rcases Nat.eq_zero_or_pos k with e | e
        · subst e; simp at hn; omega
        · exact e
      have := ih (n := n / 16) hk (by rw [Nat.pow_succ] at hn; omega)
      omega
theorem hex_pad {n : Nat} : ∀ k, 1 ≤ k → n < 16 ^ k → List.replicate (k - (hexD n).length) 48 ++ hexD n = hexK k n := by
  intro k
  induction k generalizing n with
  | zero => intro h; omega
  | succ k ih =>
    intro _ hn
    by_cases h : n < 16
    · rw [hexD_small h, hexK, Nat.mod_eq_of_lt h, Nat.div_eq_of_lt h, hexK_zero]
      simp
    · have hk : 1 ≤ k := by
        rcases Nat.eq_zero_or_pos k with e | e
        · subst e; simp at hn; omega
        · exact e
      rw [hexD_step h, hexK, ← ih (n := n / 16) hk (by rw [Nat.pow_succ] at hn; omega), List.length_append, List.length_singleton, Nat.add_sub_add_right, List.append_assoc]
theorem repl48 : ∀ c, Lib.repeatL [48] c = List.replicate c 48
  | 0 => rfl
  | c + 1 => by rw [Lib.repeatL, repl48 c, List.replicate_succ]; rfl
abbrev hex8 (n : Nat) : List UInt8 := hexK 8 n
theorem hexK_next (N j s : Nat) : hexK (j + 1) (N / 2 ^ s) = hexK j (N / 2 ^ (s + 4)) ++ [hexDg (N / 2 ^ s % 16)] := by
  rw [hexK, Nat.div_div_eq_div_mul, show 2 ^ s * 16 = 2 ^ (s + 4) by rw [Nat.pow_add]]
end Go.Fl
end

/-
  PLAIN LAWS: eight digits at base 16, read. (No program here.)
-/
section
set_option linter.unusedVariables false
set_option linter.unusedSimpArgs false
namespace Go.Fl
open Go Go.RowKit

/-- the digit that a byte is, or -1 -/
def hdig (c : UInt8) : Int := if 48 ≤ c.toNat ∧ c.toNat ≤ 57 then (c.toNat : Int) - 48 else if 97 ≤ c.toNat ∧ c.toNat ≤ 102 then (c.toNat : Int) - 97 + 10 else -1
def hstep (a : Nat) (c : UInt8) : Nat := 16 * a + (hdig c).toNat
def valH (l : List UInt8) : Nat := l.foldl hstep 0
def allH (l : List UInt8) : Bool := l.all fun c => decide (0 ≤ hdig c)
theorem valH_snoc (l : List UInt8) (c : UInt8) : valH (l ++ [c]) = 16 * valH l + (hdig c).toNat := by unfold valH; rw [List.foldl_append]; rfl
theorem hdig_dg : ∀ d : Fin 16, hdig (hexDg d.val) = (d.val : Int) := by decide
theorem hdig_lt (c : UInt8) : hdig c < 16 := by
  unfold hdig
  split
  · omega
  · split <;> omega
theorem dg_hdig {c : UInt8} (h : 0 ≤ hdig c) : hexDg (hdig c).toNat = c := by
  unfold hdig at *
  split at h
  · rename_i g
    rw [if_pos g]
    obtain ⟨d, hd⟩ : ∃ d, d = c.toNat - 48 := ⟨_, rfl⟩
    have e : ((c.toNat : Int) - 48).toNat = d := by omega
    have hc : c = UInt8.ofNat (48 + d) := UInt8.toNat_inj.1 (by rw [UInt8.toNat_ofNat']; omega)
    rw [e, hc]
    have : ∀ d : Fin 10, hexDg d.val = UInt8.ofNat (48 + d.val) := by decide
    exact this ⟨d, by omega⟩
  · rename_i g
    split at h
    · rename_i g2
      rw [if_neg g, if_pos g2]
      obtain ⟨d, hd⟩ : ∃ d, d = c.toNat - 97 := ⟨_, rfl⟩
      have e : ((c.toNat : Int) - 97 + 10).toNat = d + 10 := by omega
      have hc : c = UInt8.ofNat (97 + d) := UInt8.toNat_inj.1 (by rw [UInt8.toNat_ofNat']; omega)
      rw [e, hc]
      have : ∀ d : Fin 6, hexDg (d.val + 10) = UInt8.ofNat (97 + d.val) := by decide
      exact this ⟨d, by omega⟩
    · omega
theorem valH_hexK : ∀ k n, n < 16 ^ k → valH (hexK k n) = n
  | 0, n, h => by simp at h; subst h; rfl
  | k + 1, n, h => by
    rw [hexK, valH_snoc, valH_hexK k (n / 16) (by rw [Nat.pow_succ] at h; omega), hdig_dg ⟨n % 16, by omega⟩]
    show 16 * (n / 16) + ((n % 16 : Nat) : Int).toNat = n
    omega
theorem allH_hexK : ∀ k n, allH (hexK k n) = true
  | 0, _ => rfl
  | k + 1, n => by
    unfold allH
    rw [hexK, List.all_append, Bool.and_eq_true]
    refine ⟨allH_hexK k _, ?_⟩
    rw [List.all_cons, List.all_nil, Bool.and_true, decide_eq_true_eq, hdig_dg ⟨n % 16, by omega⟩]
    show (0 : Int) ≤ ((n % 16 : Nat) : Int)
    omega
theorem hexK_valH : ∀ (k : Nat) (l : List UInt8), l.length = k → allH l = true → l = hexK k (valH l) ∧ valH l < 16 ^ k
  | 0, l, h, _ => by rw [List.length_eq_zero_iff.1 h]; exact ⟨rfl, by decide⟩
  | k + 1, l, h, ha => by
    obtain ⟨m, c, rfl⟩ : ∃ m c, l = m ++ [c] := by
      rcases List.eq_nil_or_concat l with e | ⟨m, c, e⟩
      · rw [e] at h; cases h
      · exact ⟨m, c, by simpa using e⟩
    unfold allH at ha
    rw [List.all_append, Bool.and_eq_true, List.all_cons, List.all_nil, Bool.and_true, decide_eq_true_eq] at ha
    obtain ⟨h1, h2⟩ := hexK_valH k m (by simpa using h) ha.1
    have h3 := hdig_lt c
    have h4 := dg_hdig ha.2
    rw [valH_snoc, hexK, Nat.pow_succ]
    have e1 : (16 * valH m + (hdig c).toNat) / 16 = valH m := by omega
    have e2 : (16 * valH m + (hdig c).toNat) % 16 = (hdig c).toNat := by omega
    rw [e1, e2, ← h1, h4]
    exact ⟨rfl, by omega⟩
/-- the word whose digits a text is -/
def hexB (l : List UInt8) : Bool := decide (l.length = 8) && allH l && (cn .f32 (valH l) == valH l)
theorem hexB_iff {l : List UInt8} : hexB l = true ↔ ∃ X, X < 4294967296 ∧ cn .f32 X = X ∧ l = hex8 X := by
  unfold hexB
  rw [Bool.and_eq_true, Bool.and_eq_true, decide_eq_true_eq, beq_iff_eq]
  constructor
  · rintro ⟨⟨h1, h2⟩, h3⟩
    obtain ⟨g1, g2⟩ := hexK_valH 8 l h1 h2
    exact ⟨_, g2, h3, g1⟩
  · rintro ⟨X, h1, h2, rfl⟩
    have e := valH_hexK 8 X h1
    exact ⟨⟨hexK_len 8 X, allH_hexK 8 X⟩, by rw [e]; exact h2⟩
theorem valH_hex8 {X : Nat} (h : X < 4294967296) : valH (hex8 X) = X := valH_hexK 8 X h
theorem allH_at {l : List UInt8} (h : allH l = true) {k : Nat} (hk : k < l.length) : 0 ≤ hdig (l.getD k 0) := by
  unfold allH at h
  rw [List.all_eq_true] at h
  have := h (l.getD k 0) (by rw [List.getD_eq_getElem?_getD, List.getElem?_eq_getElem hk]; exact List.getElem_mem hk)
  simpa using this
theorem valH_take {l : List UInt8} {k : Nat} (h : k < l.length) : valH (l.take (k + 1)) = 16 * valH (l.take k) + (hdig (l.getD k 0)).toNat := by
  rw [List.take_add_one, List.getElem?_eq_getElem h, List.getD_eq_getElem?_getD, List.getElem?_eq_getElem h]
  exact valH_snoc _ _
theorem valH_bd : ∀ (l : List UInt8), valH l < 16 ^ l.length := by
  intro l
  induction h : l.length generalizing l with
  | zero => rw [List.length_eq_zero_iff.1 h]; decide
  | succ k ih =>
    obtain ⟨m, c, rfl⟩ : ∃ m c, l = m ++ [c] := by
      rcases List.eq_nil_or_concat l with e | ⟨m, c, e⟩
      · rw [e] at h; cases h
      · exact ⟨m, c, by simpa using e⟩
    rw [List.length_append] at h
    have := ih m (by simpa using h)
    have := hdig_lt c
    rw [valH_snoc, Nat.pow_succ]
    omega
end Go.Fl
end

/-
  PLAIN LAWS: a 32-bit number widened and narrowed again; a text of texts cut. (No program here.)
-/
section
set_option linter.unusedVariables false
set_option linter.unusedSimpArgs false
namespace Go.Fl
open Go Ieee Go.RowKit

theorem narrow_fin (neg : Bool) {r r0 : Nat} (hr : r < 2139095040) (hr0 : r0 < 9218868437227405312) (hv : rv Ieee.double r0 = rv Ieee.single r * 2 ^ 925) :
    floatToFloatBits .f64 (Ieee.double.word neg r0) .f32 = some (Ieee.single.word neg r) := by
  obtain ⟨mm, ee, hread, hle, hval, _⟩ := read_fin Ieee.double neg (r := r0) (by rw [inf64]; exact hr0)
  have henc : FloatKind.encode .f32 (.number neg mm ee) = Ieee.single.word neg r := by
    show Ieee.single.nearest neg mm ee = _
    refine nearest_exact _ _ (by rw [inf32]; omega) ?_
    rw [lp64] at hle hval
    rw [lp32]
    rw [hv] at hval
    by_cases h : (-149 : Int) ≤ ee
    · have e1 : ((-149 : Int) - ee).toNat = 0 := by omega
      have e2 : (ee - (-1074 : Int)).toNat = (ee - (-149 : Int)).toNat + 925 := by omega
      rw [e2, Nat.pow_add, ← Nat.mul_assoc] at hval
      rw [e1, Nat.pow_zero, Nat.mul_one]
      exact Nat.eq_of_mul_eq_mul_right (Nat.two_pow_pos 925) hval
    · have e1 : (ee - (-149 : Int)).toNat = 0 := by omega
      obtain ⟨b, hb⟩ : ∃ b, b = ((-149 : Int) - ee).toNat := ⟨_, rfl⟩
      obtain ⟨c, hc⟩ : ∃ c, c = (ee - (-1074 : Int)).toNat := ⟨_, rfl⟩
      have e3 : 925 = b + c := by omega
      rw [← hc] at hval
      rw [e3, Nat.pow_add, ← Nat.mul_assoc] at hval
      rw [e1, ← hb, Nat.pow_zero, Nat.mul_one]
      exact Nat.eq_of_mul_eq_mul_right (Nat.two_pow_pos c) hval
  obtain ⟨m2, e2, hread2, _, _, _⟩ := read_fin Ieee.single neg (r := r) (by rw [inf32]; exact hr)
  unfold floatToFloatBits
  rw [if_neg (by decide)]
  have hd : FloatKind.f64.decode (Ieee.double.word neg r0) = .number neg mm ee := hread
  simp only [hd, henc]
  have hd2 : FloatKind.f32.decode (Ieee.single.word neg r) = .number neg m2 e2 := hread2
  rw [hd2]
  rfl
/-- a 32-bit number widened and narrowed is itself -/
theorem nar_wid {X : Nat} (hX : Can .f32 X) : nar (wid X) = X ∧ NoOv (wid X) := by
  have hlt := can32_lt hX
  cases hn : isn .f32 X with
  | true =>
    rw [wid_nan hn, hX.nan hn]
    exact ⟨by decide +kernel, .inl (by decide +kernel)⟩
  | false =>
    have hw : X = Ieee.single.word (ng FloatKind.f32.format X) (X % 2147483648) := by
      have := word_of (k := .f32) (X := X) (by rw [w32]; exact hlt)
      rw [rg32] at this; exact this
    obtain ⟨r0, h0, h1, h2, h3⟩ := wid_cases hlt hn
    rw [isn32, decide_eq_false_iff_not] at hn
    rcases Nat.lt_or_ge (X % 2147483648) 2139095040 with g | g
    · obtain ⟨k1, k2⟩ := h2 g
      have := narrow_fin (ng FloatKind.f32.format X) g k1 k2
      rw [← hw] at this
      rw [h1]
      unfold nar NoOv
      rw [this]
      exact ⟨rfl, .inr rfl⟩
    · have e : X % 2147483648 = 2139095040 := by omega
      have : X = 2139095040 ∨ X = 4286578688 := by omega
      rcases this with rfl | rfl
      · exact ⟨by decide +kernel, .inr (by decide +kernel)⟩
      · exact ⟨by decide +kernel, .inr (by decide +kernel)⟩
/-! ### a text of texts cut -/
theorem pc_app (c : UInt8) : ∀ (l cur m : List UInt8), pc c cur (l ++ c :: m) = pc c cur l ++ pc c [] m
  | [], cur, m => by simp [pc]
  | b :: l, cur, m => by
    rw [List.cons_append, pc, pc]
    split
    · rw [pc_app c l [] m]; rfl
    · exact pc_app c l _ m
theorem pc_one (c : UInt8) : ∀ (l cur : List UInt8), (∀ b ∈ l, b ≠ c) → pc c cur l = [cur ++ l]
  | [], cur, _ => by simp [pc]
  | b :: l, cur, h => by
    rw [pc, if_neg (h b (by simp)), pc_one c l _ (fun x hx => h x (by simp [hx]))]
    simp
theorem pcs_tx (f : Nat → List UInt8) (h : ∀ i, ∀ b ∈ f i, b ≠ 44) : ∀ k, pcs (tx f (k + 1)) = (List.range (k + 1)).map f
  | 0 => by
    show pc 44 [] (f 0) = _
    rw [pc_one 44 _ _ (h 0)]; rfl
  | k + 1 => by
    rw [tx_succ f (by omega)]
    show pc 44 [] _ = _
    rw [pc_app, pc_one 44 (f (k + 1)) [] (h (k + 1))]
    have := pcs_tx f h k
    show pcs (tx f (k + 1)) ++ _ = _
    rw [this, List.range_succ (n := k + 1)]
    simp
theorem hexK_44 (k n : Nat) : ∀ b ∈ hexK k n, b ≠ 44 := by
  intro b hb e
  subst e
  have := allH_hexK k n
  unfold allH at this
  rw [List.all_eq_true] at this
  have := this _ hb
  revert this
  decide
theorem pieces_txt (f : Nat → List UInt8) (h : ∀ i, ∀ b ∈ f i, b ≠ 44) (hl : ∀ i, 8 ≤ (f i).length) (n : Nat) (hn : 1 ≤ n) : (pcs (txt f n)).length = n ∧ (∀ i, i < n → pieceN (txt f n) i = f i) ∧ noneB (txt f n) = false := by
  obtain ⟨k, rfl⟩ : ∃ k, n = k + 1 := ⟨n - 1, by omega⟩
  have e : txt f (k + 1) = tx f (k + 1) := by unfold txt; rw [if_neg (by omega)]
  rw [e]
  have hp := pcs_tx f h k
  refine ⟨by rw [hp]; simp, fun i hi => ?_, ?_⟩
  · unfold pieceN
    rw [hp, List.getD_eq_getElem?_getD]
    simp [hi]
  · cases hb : noneB (tx f (k + 1)) with
    | false => rfl
    | true =>
      have hq : tx f (k + 1) = [110, 111, 110, 101] := by unfold noneB at hb; simpa using hb
      rw [hq] at hp
      have h1 : pcs [110, 111, 110, 101] = [[110, 111, 110, 101]] := by decide
      rw [h1] at hp
      have h2 := congrArg (fun L => L.getD 0 []) hp
      have h3 : f 0 = [110, 111, 110, 101] := by simpa [List.getD_eq_getElem?_getD] using h2.symm
      have := hl 0
      rw [h3] at this
      simp at this
end Go.Fl
end

/-
  CONTRACTS: complex arithmetic.
-/
section
set_option linter.unusedSimpArgs false
set_option linter.unusedVariables false
namespace Go.Proofs.Ytianaalokclklaa
open Go.RowKit Go.Fl

/-- a complex number handed back -/
def KRet (A B : Nat) (w : World) (e : Ending) (w' : World) : Prop := ∃ a b, e = .returned (.complex .f32 a b) ∧ Is .f32 a A ∧ Is .f32 b B ∧ Dr w w'
/-- two floats handed back -/
def PRet (A B : Nat) (w : World) (e : Ending) (w' : World) : Prop := ∃ a b, e = .returned (.tuple #[.float .f64 a, .float .f64 b]) ∧ Is .f64 a A ∧ Is .f64 b B ∧ Dr w w'
theorem parts_any (x X y Y : Nat) (hx : Is .f32 x X) (hy : Is .f32 y Y) (w : World) : Calls Try.prog 21 #[.complex .f32 x y] w (PRet (wid X) (wid Y) w) := by
  go_enter Try.func21, Try.ntmps21
  go_wp2_with ((with_reducible refine wpList_here ?_); (first | ((with_reducible refine wpList_widen Try.underlying28 Try.underlying27 (bx := ?_) (X := ?_) ?_ ?_ ?_ ?_); rotate_left 2; (first | (with_reducible exact wanted_none) | ((with_reducible refine wanted_some ?_); rfl)); (rfl); (first | assumption | ((refine Is.lit ?_); decide +kernel) | (refine Is.ofInt _ _)); (intro r nd hr); (try simp only [Act.put, List.setIfInBounds_toArray, List.set_cons_succ, List.set_cons_zero, World.drewN_drewN]))))
  go_ret2
  exact ⟨_, _, rfl, by assumption, by assumption, (by repeat (first | exact Dr.refl _ | apply Dr.drewN))⟩
abbrev prRe (A B C D : Nat) : Nat := fop .sub .f64 (fop .mul .f64 A C) (fop .mul .f64 B D)
abbrev prIm (A B C D : Nat) : Nat := fop .add .f64 (fop .mul .f64 A D) (fop .mul .f64 B C)
theorem product_any (a A b B c C d D : Nat) (ha : Is .f64 a A) (hb : Is .f64 b B) (hc : Is .f64 c C) (hd : Is .f64 d D) (w : World) : Calls Try.prog 22 #[.float .f64 a, .float .f64 b, .float .f64 c, .float .f64 d] w (PRet (prRe A B C D) (prIm A B C D) w) := by
  go_enter Try.func22, Try.ntmps22
  go_wp2_with ((with_reducible refine wpList_here ?_); (first | ((with_reducible refine wpList_feq (k := ?_) (bx := ?_) (by' := ?_) (X := ?_) (Y := ?_) ?_ ?_ ?_ ?_ ?_ ?_); rotate_left 5; (first | (with_reducible exact wanted_none) | ((with_reducible refine wanted_some ?_); rfl)); (rfl); (rfl); (first | assumption | ((refine Is.lit ?_); decide +kernel) | (refine Is.ofInt _ _)); (first | assumption | ((refine Is.lit ?_); decide +kernel) | (refine Is.ofInt _ _)); (try simp only [Act.put, List.setIfInBounds_toArray, List.set_cons_succ, List.set_cons_zero, World.drewN_drewN])) | ((with_reducible refine wpList_fne (k := ?_) (bx := ?_) (by' := ?_) (X := ?_) (Y := ?_) ?_ ?_ ?_ ?_ ?_ ?_); rotate_left 5; (first | (with_reducible exact wanted_none) | ((with_reducible refine wanted_some ?_); rfl)); (rfl); (rfl); (first | assumption | ((refine Is.lit ?_); decide +kernel) | (refine Is.ofInt _ _)); (first | assumption | ((refine Is.lit ?_); decide +kernel) | (refine Is.ofInt _ _)); (try simp only [Act.put, List.setIfInBounds_toArray, List.set_cons_succ, List.set_cons_zero, World.drewN_drewN])) | ((with_reducible refine wpList_flt (k := ?_) (bx := ?_) (by' := ?_) (X := ?_) (Y := ?_) ?_ ?_ ?_ ?_ ?_ ?_); rotate_left 5; (first | (with_reducible exact wanted_none) | ((with_reducible refine wanted_some ?_); rfl)); (rfl); (rfl); (first | assumption | ((refine Is.lit ?_); decide +kernel) | (refine Is.ofInt _ _)); (first | assumption | ((refine Is.lit ?_); decide +kernel) | (refine Is.ofInt _ _)); (try simp only [Act.put, List.setIfInBounds_toArray, List.set_cons_succ, List.set_cons_zero, World.drewN_drewN])) | ((with_reducible refine wpList_fle (k := ?_) (bx := ?_) (by' := ?_) (X := ?_) (Y := ?_) ?_ ?_ ?_ ?_ ?_ ?_); rotate_left 5; (first | (with_reducible exact wanted_none) | ((with_reducible refine wanted_some ?_); rfl)); (rfl); (rfl); (first | assumption | ((refine Is.lit ?_); decide +kernel) | (refine Is.ofInt _ _)); (first | assumption | ((refine Is.lit ?_); decide +kernel) | (refine Is.ofInt _ _)); (try simp only [Act.put, List.setIfInBounds_toArray, List.set_cons_succ, List.set_cons_zero, World.drewN_drewN])) | ((with_reducible refine wpList_fgt (k := ?_) (bx := ?_) (by' := ?_) (X := ?_) (Y := ?_) ?_ ?_ ?_ ?_ ?_ ?_); rotate_left 5; (first | (with_reducible exact wanted_none) | ((with_reducible refine wanted_some ?_); rfl)); (rfl); (rfl); (first | assumption | ((refine Is.lit ?_); decide +kernel) | (refine Is.ofInt _ _)); (first | assumption | ((refine Is.lit ?_); decide +kernel) | (refine Is.ofInt _ _)); (try simp only [Act.put, List.setIfInBounds_toArray, List.set_cons_succ, List.set_cons_zero, World.drewN_drewN])) | ((with_reducible refine wpList_fge (k := ?_) (bx := ?_) (by' := ?_) (X := ?_) (Y := ?_) ?_ ?_ ?_ ?_ ?_ ?_); rotate_left 5; (first | (with_reducible exact wanted_none) | ((with_reducible refine wanted_some ?_); rfl)); (rfl); (rfl); (first | assumption | ((refine Is.lit ?_); decide +kernel) | (refine Is.ofInt _ _)); (first | assumption | ((refine Is.lit ?_); decide +kernel) | (refine Is.ofInt _ _)); (try simp only [Act.put, List.setIfInBounds_toArray, List.set_cons_succ, List.set_cons_zero, World.drewN_drewN])) | ((with_reducible refine wpList_fadd (k := ?_) (bx := ?_) (by' := ?_) (X := ?_) (Y := ?_) ?_ ?_ ?_ ?_ ?_ ?_); rotate_left 5; (first | (with_reducible exact wanted_none) | ((with_reducible refine wanted_some ?_); rfl)); (rfl); (rfl); (first | assumption | ((refine Is.lit ?_); decide +kernel) | (refine Is.ofInt _ _)); (first | assumption | ((refine Is.lit ?_); decide +kernel) | (refine Is.ofInt _ _)); (intro r nd hr); (try simp only [Act.put, List.setIfInBounds_toArray, List.set_cons_succ, List.set_cons_zero, World.drewN_drewN])) | ((with_reducible refine wpList_fsub (k := ?_) (bx := ?_) (by' := ?_) (X := ?_) (Y := ?_) ?_ ?_ ?_ ?_ ?_ ?_); rotate_left 5; (first | (with_reducible exact wanted_none) | ((with_reducible refine wanted_some ?_); rfl)); (rfl); (rfl); (first | assumption | ((refine Is.lit ?_); decide +kernel) | (refine Is.ofInt _ _)); (first | assumption | ((refine Is.lit ?_); decide +kernel) | (refine Is.ofInt _ _)); (intro r nd hr); (try simp only [Act.put, List.setIfInBounds_toArray, List.set_cons_succ, List.set_cons_zero, World.drewN_drewN])) | ((with_reducible refine wpList_fmul (k := ?_) (bx := ?_) (by' := ?_) (X := ?_) (Y := ?_) ?_ ?_ ?_ ?_ ?_ ?_); rotate_left 5; (first | (with_reducible exact wanted_none) | ((with_reducible refine wanted_some ?_); rfl)); (rfl); (rfl); (first | assumption | ((refine Is.lit ?_); decide +kernel) | (refine Is.ofInt _ _)); (first | assumption | ((refine Is.lit ?_); decide +kernel) | (refine Is.ofInt _ _)); (intro r nd hr); (try simp only [Act.put, List.setIfInBounds_toArray, List.set_cons_succ, List.set_cons_zero, World.drewN_drewN])) | ((with_reducible refine wpList_fquo (k := ?_) (bx := ?_) (by' := ?_) (X := ?_) (Y := ?_) ?_ ?_ ?_ ?_ ?_ ?_); rotate_left 5; (first | (with_reducible exact wanted_none) | ((with_reducible refine wanted_some ?_); rfl)); (rfl); (rfl); (first | assumption | ((refine Is.lit ?_); decide +kernel) | (refine Is.ofInt _ _)); (first | assumption | ((refine Is.lit ?_); decide +kernel) | (refine Is.ofInt _ _)); (intro r nd hr); (try simp only [Act.put, List.setIfInBounds_toArray, List.set_cons_succ, List.set_cons_zero, World.drewN_drewN]))))
  go_ret2
  exact ⟨_, _, rfl, by assumption, by assumption, (by repeat (first | exact Dr.refl _ | apply Dr.drewN))⟩
abbrev mlRe (A B C D : Nat) : Nat := prRe (wid A) (wid B) (wid C) (wid D)
abbrev mlIm (A B C D : Nat) : Nat := prIm (wid A) (wid B) (wid C) (wid D)
theorem mul_any (a A b B c C d D : Nat) (ha : Is .f32 a A) (hb : Is .f32 b B) (hc : Is .f32 c C) (hd : Is .f32 d D) (n1 : NoOv (mlRe A B C D)) (n2 : NoOv (mlIm A B C D)) (w : World) :
    Calls Try.prog 11 #[.complex .f32 a b, .complex .f32 c d] w (KRet (nar (mlRe A B C D)) (nar (mlIm A B C D)) w) := by
  go_enter Try.func11, Try.ntmps11
  go_wp2_with (first
    | (go_at_call 21; refine (parts_any _ _ _ _ (by assumption) (by assumption) _).mono ?_; rintro e w' ⟨r, s, rfl, hr, hs, nd, rfl⟩)
    | (go_at_call 22; refine (product_any _ _ _ _ _ _ _ _ (by assumption) (by assumption) (by assumption) (by assumption) _).mono ?_; rintro e w' ⟨r, s, rfl, hr, hs, nd, rfl⟩)
    | ((with_reducible refine wpList_here ?_); (first | ((with_reducible refine wpList_narrow Try.underlying27 Try.underlying28 (bx := ?_) (X := ?_) ?_ ?_ ?_ ?_ ?_); rotate_left 2; (first | (with_reducible exact wanted_none) | ((with_reducible refine wanted_some ?_); rfl)); (rfl); (first | assumption | ((refine Is.lit ?_); decide +kernel) | (refine Is.ofInt _ _)); assumption; (intro r nd hr); (try simp only [Act.put, List.setIfInBounds_toArray, List.set_cons_succ, List.set_cons_zero, World.drewN_drewN])))))
  go_ret
  exact ⟨_, _, rfl, by assumption, by assumption, (by repeat (first | exact Dr.refl _ | apply Dr.drewN))⟩
abbrev pwF (A B : Nat) : Nat := fop .add .f64 (fop .mul .f64 (wid A) (wid A)) (fop .mul .f64 (wid B) (wid B))
theorem powerOf_any (a A b B : Nat) (ha : Is .f32 a A) (hb : Is .f32 b B) (w : World) : Calls Try.prog 20 #[.complex .f32 a b] w (FRet .f64 (pwF A B) w) := by
  go_enter Try.func20, Try.ntmps20
  go_wp2_with (first
    | (go_at_call 21; refine (parts_any _ _ _ _ (by assumption) (by assumption) _).mono ?_; rintro e w' ⟨r, s, rfl, hr, hs, nd, rfl⟩)
    | ((with_reducible refine wpList_here ?_); (first | ((with_reducible refine wpList_feq (k := ?_) (bx := ?_) (by' := ?_) (X := ?_) (Y := ?_) ?_ ?_ ?_ ?_ ?_ ?_); rotate_left 5; (first | (with_reducible exact wanted_none) | ((with_reducible refine wanted_some ?_); rfl)); (rfl); (rfl); (first | assumption | ((refine Is.lit ?_); decide +kernel) | (refine Is.ofInt _ _)); (first | assumption | ((refine Is.lit ?_); decide +kernel) | (refine Is.ofInt _ _)); (try simp only [Act.put, List.setIfInBounds_toArray, List.set_cons_succ, List.set_cons_zero, World.drewN_drewN])) | ((with_reducible refine wpList_fne (k := ?_) (bx := ?_) (by' := ?_) (X := ?_) (Y := ?_) ?_ ?_ ?_ ?_ ?_ ?_); rotate_left 5; (first | (with_reducible exact wanted_none) | ((with_reducible refine wanted_some ?_); rfl)); (rfl); (rfl); (first | assumption | ((refine Is.lit ?_); decide +kernel) | (refine Is.ofInt _ _)); (first | assumption | ((refine Is.lit ?_); decide +kernel) | (refine Is.ofInt _ _)); (try simp only [Act.put, List.setIfInBounds_toArray, List.set_cons_succ, List.set_cons_zero, World.drewN_drewN])) | ((with_reducible refine wpList_flt (k := ?_) (bx := ?_) (by' := ?_) (X := ?_) (Y := ?_) ?_ ?_ ?_ ?_ ?_ ?_); rotate_left 5; (first | (with_reducible exact wanted_none) | ((with_reducible refine wanted_some ?_); rfl)); (rfl); (rfl); (first | assumption | ((refine Is.lit ?_); decide +kernel) | (refine Is.ofInt _ _)); (first | assumption | ((refine Is.lit ?_); decide +kernel) | (refine Is.ofInt _ _)); (try simp only [Act.put, List.setIfInBounds_toArray, List.set_cons_succ, List.set_cons_zero, World.drewN_drewN])) | ((with_reducible refine wpList_fle (k := ?_) (bx := ?_) (by' := ?_) (X := ?_) (Y := ?_) ?_ ?_ ?_ ?_ ?_ ?_); rotate_left 5; (first | (with_reducible exact wanted_none) | ((with_reducible refine wanted_some ?_); rfl)); (rfl); (rfl); (first | assumption | ((refine Is.lit ?_); decide +kernel) | (refine Is.ofInt _ _)); (first | assumption | ((refine Is.lit ?_); decide +kernel) | (refine Is.ofInt _ _)); (try simp only [Act.put, List.setIfInBounds_toArray, List.set_cons_succ, List.set_cons_zero, World.drewN_drewN])) | ((with_reducible refine wpList_fgt (k := ?_) (bx := ?_) (by' := ?_) (X := ?_) (Y := ?_) ?_ ?_ ?_ ?_ ?_ ?_); rotate_left 5; (first | (with_reducible exact wanted_none) | ((with_reducible refine wanted_some ?_); rfl)); (rfl); (rfl); (first | assumption | ((refine Is.lit ?_); decide +kernel) | (refine Is.ofInt _ _)); (first | assumption | ((refine Is.lit ?_); decide +kernel) | (refine Is.ofInt _ _)); (try simp only [Act.put, List.setIfInBounds_toArray, List.set_cons_succ, List.set_cons_zero, World.drewN_drewN])) | ((with_reducible refine wpList_fge (k := ?_) (bx := ?_) (by' := ?_) (X := ?_) (Y := ?_) ?_ ?_ ?_ ?_ ?_ ?_); rotate_left 5; (first | (with_reducible exact wanted_none) | ((with_reducible refine wanted_some ?_); rfl)); (rfl); (rfl); (first | assumption | ((refine Is.lit ?_); decide +kernel) | (refine Is.ofInt _ _)); (first | assumption | ((refine Is.lit ?_); decide +kernel) | (refine Is.ofInt _ _)); (try simp only [Act.put, List.setIfInBounds_toArray, List.set_cons_succ, List.set_cons_zero, World.drewN_drewN])) | ((with_reducible refine wpList_fadd (k := ?_) (bx := ?_) (by' := ?_) (X := ?_) (Y := ?_) ?_ ?_ ?_ ?_ ?_ ?_); rotate_left 5; (first | (with_reducible exact wanted_none) | ((with_reducible refine wanted_some ?_); rfl)); (rfl); (rfl); (first | assumption | ((refine Is.lit ?_); decide +kernel) | (refine Is.ofInt _ _)); (first | assumption | ((refine Is.lit ?_); decide +kernel) | (refine Is.ofInt _ _)); (intro r nd hr); (try simp only [Act.put, List.setIfInBounds_toArray, List.set_cons_succ, List.set_cons_zero, World.drewN_drewN])) | ((with_reducible refine wpList_fsub (k := ?_) (bx := ?_) (by' := ?_) (X := ?_) (Y := ?_) ?_ ?_ ?_ ?_ ?_ ?_); rotate_left 5; (first | (with_reducible exact wanted_none) | ((with_reducible refine wanted_some ?_); rfl)); (rfl); (rfl); (first | assumption | ((refine Is.lit ?_); decide +kernel) | (refine Is.ofInt _ _)); (first | assumption | ((refine Is.lit ?_); decide +kernel) | (refine Is.ofInt _ _)); (intro r nd hr); (try simp only [Act.put, List.setIfInBounds_toArray, List.set_cons_succ, List.set_cons_zero, World.drewN_drewN])) | ((with_reducible refine wpList_fmul (k := ?_) (bx := ?_) (by' := ?_) (X := ?_) (Y := ?_) ?_ ?_ ?_ ?_ ?_ ?_); rotate_left 5; (first | (with_reducible exact wanted_none) | ((with_reducible refine wanted_some ?_); rfl)); (rfl); (rfl); (first | assumption | ((refine Is.lit ?_); decide +kernel) | (refine Is.ofInt _ _)); (first | assumption | ((refine Is.lit ?_); decide +kernel) | (refine Is.ofInt _ _)); (intro r nd hr); (try simp only [Act.put, List.setIfInBounds_toArray, List.set_cons_succ, List.set_cons_zero, World.drewN_drewN])) | ((with_reducible refine wpList_fquo (k := ?_) (bx := ?_) (by' := ?_) (X := ?_) (Y := ?_) ?_ ?_ ?_ ?_ ?_ ?_); rotate_left 5; (first | (with_reducible exact wanted_none) | ((with_reducible refine wanted_some ?_); rfl)); (rfl); (rfl); (first | assumption | ((refine Is.lit ?_); decide +kernel) | (refine Is.ofInt _ _)); (first | assumption | ((refine Is.lit ?_); decide +kernel) | (refine Is.ofInt _ _)); (intro r nd hr); (try simp only [Act.put, List.setIfInBounds_toArray, List.set_cons_succ, List.set_cons_zero, World.drewN_drewN])))))
  go_ret
  exact ⟨_, rfl, by assumption, (by repeat (first | exact Dr.refl _ | apply Dr.drewN))⟩
theorem iPowerOf_any (a A b B : Nat) (ha : Is .f32 a A) (hb : Is .f32 b B) (n1 : NoOv (pwF A B)) (w : World) : Calls Try.prog 9 #[.complex .f32 a b] w (FRet .f32 (nar (pwF A B)) w) := by
  go_enter Try.func9, Try.ntmps9
  go_wp2_with (first
    | (go_at_call 20; refine (powerOf_any _ _ _ _ (by assumption) (by assumption) _).mono ?_; rintro e w' ⟨r, rfl, hr, nd, rfl⟩)
    | ((with_reducible refine wpList_here ?_); (first | ((with_reducible refine wpList_narrow Try.underlying27 Try.underlying28 (bx := ?_) (X := ?_) ?_ ?_ ?_ ?_ ?_); rotate_left 2; (first | (with_reducible exact wanted_none) | ((with_reducible refine wanted_some ?_); rfl)); (rfl); (first | assumption | ((refine Is.lit ?_); decide +kernel) | (refine Is.ofInt _ _)); assumption; (intro r nd hr); (try simp only [Act.put, List.setIfInBounds_toArray, List.set_cons_succ, List.set_cons_zero, World.drewN_drewN])))))
  go_ret
  exact ⟨_, rfl, by assumption, (by repeat (first | exact Dr.refl _ | apply Dr.drewN))⟩
abbrev quRe (A B C D : Nat) : Nat := fop .quo .f64 (prRe (wid A) (wid B) (wid C) (fneg .f64 (wid D))) (pwF C D)
abbrev quIm (A B C D : Nat) : Nat := fop .quo .f64 (prIm (wid A) (wid B) (wid C) (fneg .f64 (wid D))) (pwF C D)
end Go.Proofs.Ytianaalokclklaa
end

/-
  SLICES OF INTEGERS: what is known of one in a world; one that came in, opened. (No program here.)
-/
section
set_option linter.unusedVariables false
set_option linter.unusedSimpArgs false
namespace Go.Fl
open Go Ieee Go.ChangeShapes Go.WideShapes

/-- '.slice ao n c' reads as the integers 'z 0 .. z (n - 1)' in 'w' -/
structure IRow (k : IntKind) (w : World) (ao : Option Addr) (n : Nat) (z : Nat → Int) : Prop where
  at0 : 0 < n → ∃ b off, ao = some ⟨b, off, none⟩ ∧ b < w.heap.size ∧ ∀ i, i < n → w.cell? ⟨b, off + i, none⟩ = some (.int k (z i))
  wf : ∀ i, i < n → (Lit.int k (z i)).wf = true

theorem IRow.below {k : IntKind} {w w' : World} {ao : Option Addr} {n : Nat} {z : Nat → Int} (h : IRow k w ao n z) {B : Nat} (hB : w.heap.size ≤ B) (hb : RowKit.Below B w w') : IRow k w' ao n z := by
  refine ⟨fun hn => ?_, h.wf⟩
  obtain ⟨b, off, h1, h2, h3⟩ := h.at0 hn
  refine ⟨b, off, h1, Nat.lt_of_lt_of_le h2 hb.size, fun i hi => ?_⟩
  rw [hb.cell (p := ⟨b, off + i, none⟩) (by show b < B; omega)]
  exact h3 i hi
theorem IRow.drewN {k : IntKind} {w : World} {ao : Option Addr} {n : Nat} {z : Nat → Int} (h : IRow k w ao n z) (q : Nat) : IRow k (w.drewN q) ao n z := ⟨h.at0, h.wf⟩
theorem IRow.bel {k : IntKind} {w w' : World} {ao : Option Addr} {n : Nat} {z : Nat → Int} (h : IRow k w ao n z) (hb : Bel w w') : IRow k w' ao n z := h.below (Nat.le_refl _) hb

theorem u8_wf {z : Int} (h : (Lit.int .u8 z).wf = true) : 0 ≤ z ∧ z ≤ 255 := by
  unfold Lit.wf at h
  rw [Bool.and_eq_true, decide_eq_true_eq, decide_eq_true_eq] at h
  exact h
theorem i64_wf {z : Int} (h : (Lit.int .i64 z).wf = true) : -9223372036854775808 ≤ z ∧ z ≤ 9223372036854775807 := by
  unfold Lit.wf at h
  rw [Bool.and_eq_true, decide_eq_true_eq, decide_eq_true_eq] at h
  exact h

section
variable {H : Type} {enc : TypeId × Value → H} {P : Program} {W : World}

/-- a slice of integers that came in -/
theorem open_irow {k : IntKind} {t e : TypeId} {v : Value} {d : DataW H} {ps : List MemPlace} {r : Reach} {b0 : Nat} (ht : P.underlying t = some (.slice e)) (he : P.underlying e = some (.int k)) (hc : P.cellsOf e = 1)
    (hv : Value.okWide P W r b0 t v) (h : DataW.Trod enc P W 0 (fun _ => true) true t v d ps) :
    ∃ ao n c z, v = .slice ao n c ∧ IRow k W ao n z ∧ n ≤ c ∧ c ≤ maxLen := by
  obtain ⟨ao, n, c, rfl⟩ := okWide_slice ht hv
  obtain ⟨fuel, hf⟩ := h
  rcases Deep.open_slice1 ht hc hf with ⟨h0, _⟩ | ⟨a, len, cap, m, kk, V, D, Pl, h0, hb, hl, hm, hmm, hx, hi⟩
  · simp [Value.cells] at h0
    obtain ⟨rfl, rfl, rfl⟩ := h0
    exact ⟨none, 0, 0, fun _ => 0, rfl, ⟨fun h => absurd h (by omega), fun i h => absurd h (by omega)⟩, Nat.le_refl _, by simp [maxLen]⟩
  · simp [Value.cells] at h0
    obtain ⟨rfl, rfl, rfl⟩ := h0
    simp at hmm
    have each : ∀ i, i < n → ∃ x, V i = .int k x ∧ (Lit.int k x).wf = true := by
      intro i hi'
      obtain ⟨_, h2⟩ := hi i (by omega)
      cases kk with
      | zero => simp [DataW.trod] at h2
      | succ kk =>
        simp only [DataW.trod, he] at h2
        cases hV : V i <;> rw [hV] at h2 <;> simp at h2
        rename_i k2 b
        obtain ⟨rfl, h3⟩ := h2.1
        exact ⟨b, rfl, by simpa using h3⟩
    obtain ⟨f, hf'⟩ := Deep.choose_lt (α := Int) (p := fun i x => V i = .int k x ∧ (Lit.int k x).wf = true) each
    refine ⟨some a, n, c, f, rfl, ⟨fun hn => ?_, fun i hi' => (hf' i hi').2⟩, hl, hm⟩
    obtain ⟨b, off, spot⟩ := a
    have h00 := (hi 0 (by omega)).1
    have hspot : spot = none := by simpa [Addr.add] using World.cell?_spot h00
    subst hspot
    refine ⟨b, off, rfl, ?_, fun i hi' => ?_⟩
    · have := lt_of_cell h00
      simpa [Addr.add] using this
    · have h1 := (hi i (by omega)).1
      rw [(hf' i hi').1] at h1
      rw [← h1]
      congr 1
      unfold Addr.add
      split
      · rename_i h; simp [h]
      · rfl
end

end Go.Fl
end

/-
  A REGION THAT DRAWS ITS ORDER, WALKED ONCE, WITH WHAT IS KNOWN OF EACH SLOT AS A SET OF VALUES: an operation may give any value of a set (a not-a-number whose bits the tape draws). One walk in the order of the text serves every order. (No program here.)
-/
section
set_option linter.unusedVariables false
set_option linter.unusedSimpArgs false
namespace Go.Rg
open Go

/-- what is known of the slots -/
abbrev Known := List (Value → Prop)

def Is1 (v : Value) : Value → Prop := fun u => u = v
def Any : Value → Prop := fun _ => True

/-- the frame is as is known -/
def Fits (A : Known) (a : Act) : Prop := A.length = a.tmps.size ∧ ∀ (t : Nat) (S : Value → Prop) (v : Value), A[t]? = some S → a.tmps[t]? = some v → S v
/-- nothing that is known is empty -/
def Sound (A : Known) : Prop := ∀ (t : Nat) (S : Value → Prop), A[t]? = some S → ∃ v, S v

def upd (A : Known) : Option Tmp → (Value → Prop) → Known
  | none, _ => A
  | some d, V => A.set d V

section
variable {P : Program} {ops : Array Oper} {md : Region.Mode} {C : World → Prop} {D : List Deferred}

/-- what an operation has done -/
def Out (P : Program) (C : World → Prop) (V : Value → Prop) : Result Next → Prop
  | .ok (.value u) w' => C w' ∧ V u
  | .ok .skip w' => C w' ∧ V undef
  | .ok (.enter f args) w' => Calls P f args w' (fun e w'' => ∃ u, e = .returned u ∧ V u ∧ C w'')
  | _ => False

/-- in every frame that is as is known, in every world of the class, the operation gives a value of the set -/
def Gives (P : Program) (ops : Array Oper) (C : World → Prop) (o : Oper) (A : Known) (V : Value → Prop) : Prop :=
  ∀ a, Fits A a → (Region.wanted o (yielded ops a.tmps) = true → ∀ w, C w → Out P C V ((execOp a.eval o).run P w)) ∧ (Region.wanted o (yielded ops a.tmps) = false → V undef)

theorem calls_some {f : FuncId} {args : Array Value} {w : World} {R : Ending → World → Prop} (h : Calls P f args w R) : ∃ e w', R e w' := by
  obtain ⟨e, w', _, hr, _⟩ := h []
  exact ⟨e, w', hr⟩

theorem Gives.hits {o : Oper} {A : Known} {V : Value → Prop} (h : Gives P ops C o A V) {a : Act} (ha : Fits A a) {w : World} (hw : C w) : ∃ v, V v := by
  obtain ⟨h1, h2⟩ := h a ha
  cases hwt : Region.wanted o (yielded ops a.tmps)
  · exact ⟨_, h2 hwt⟩
  · have h3 := h1 hwt w hw
    generalize (execOp a.eval o).run P w = r at h3
    cases r with
    | ok n w' =>
      cases n <;> simp only [Out] at h3
      case value u => exact ⟨u, h3.2⟩
      case skip => exact ⟨_, h3.2⟩
      case enter f args =>
        obtain ⟨e, w'', u, _, hu, _⟩ := calls_some h3
        exact ⟨u, hu⟩
    | halt x w' => simp only [Out] at h3

theorem Fits.put {A : Known} {a : Act} (h : Fits A a) {V : Value → Prop} {v : Value} (hv : V v) (d : Option Tmp) : Fits (upd A d V) (a.put d v) := by
  cases d with
  | none => exact h
  | some d =>
    refine ⟨by simp [upd, Act.put, h.1], fun t S u hS hu => ?_⟩
    simp only [upd, Act.put] at hS hu
    rw [List.getElem?_set] at hS
    rw [Array.getElem?_setIfInBounds] at hu
    by_cases hdt : d = t
    · subst hdt
      simp only [if_true] at hS hu
      split at hS
      · cases hS
        split at hu
        · cases hu; exact hv
        · cases hu
      · cases hS
    · rw [if_neg hdt] at hS hu
      exact h.2 t S u hS hu

theorem Sound.upd {A : Known} (h : Sound A) {V : Value → Prop} (hv : ∃ v, V v) (d : Option Tmp) : Sound (upd A d V) := by
  cases d with
  | none => exact h
  | some d =>
    intro t S hS
    simp only [Rg.upd] at hS
    rw [List.getElem?_set] at hS
    split at hS
    · split at hS
      · cases hS; exact hv
      · cases hS
    · exact h t S hS

theorem upd_comm (A : Known) {x y : Option Tmp} (V U : Value → Prop) (h : ∀ d, x = some d → y ≠ some d) : upd (upd A x V) y U = upd (upd A y U) x V := by
  cases x with
  | none => rfl
  | some d =>
    cases y with
    | none => rfl
    | some e =>
      have hne : d ≠ e := fun he => h d rfl (he ▸ rfl)
      exact List.set_comm _ _ hne

/-- THE WALK IN THE ORDER OF THE TEXT -/
def wpR (P : Program) (ops : Array Oper) (C : World → Prop) (Q : Known → Prop) : List Oper → Known → Prop
  | [], A => Q A
  | o :: rest, A => ∃ V, Gives P ops C o A V ∧ wpR P ops C Q rest (upd A o.dst V)

def rOp (P : Program) (ops : Array Oper) (C : World → Prop) (i : Nat) (K : Known → Prop) (A : Known) : Prop :=
  match ops[i]? with
  | none => K A
  | some o => ∃ V, Gives P ops C o A V ∧ K (upd A o.dst V)

theorem rOp_mono {i : Nat} {A : Known} {K K' : Known → Prop} (h : ∀ A, K A → K' A) (hh : rOp P ops C i K A) : rOp P ops C i K' A := by
  unfold rOp at *
  split
  · exact h _ (by simpa [*] using hh)
  · rename_i o ho
    simp only [ho] at hh
    obtain ⟨V, h1, h2⟩ := hh
    exact ⟨V, h1, h _ h2⟩

def wpAnyR (P : Program) (md : Region.Mode) (ops : Array Oper) (C : World → Prop) (Q : Known → Prop) : Nat → Array Bool → Known → Prop
  | 0, listed, A => Region.ready md ops listed = [] ∧ Q A
  | fuel + 1, listed, A =>
    (Region.ready md ops listed = [] → Q A) ∧ ∀ i ∈ Region.ready md ops listed, rOp P ops C i (wpAnyR P md ops C Q fuel (listed.setIfInBounds i true)) A

theorem wpOp_of_rOp {i : Nat} {A : Known} {a : Act} {K : Known → Prop} {K' : Act → World → Prop} {Q' : Exit → Act → World → Prop} {w : World} (hC : C w) (ha : Fits A a)
    (h : ∀ A' a' w', C w' → Fits A' a' → a'.defers = a.defers → K A' → K' a' w') (hh : rOp P ops C i K A) : wpOp P ops Q' i K' a w := by
  unfold rOp at hh
  unfold wpOp
  split
  · rename_i ho; simp only [ho] at hh; exact h _ _ _ hC ha rfl hh
  · rename_i o ho
    simp only [ho] at hh
    obtain ⟨V, hg, hK⟩ := hh
    obtain ⟨g1, g2⟩ := hg a ha
    have pd : ∀ v, (a.put o.dst v).defers = a.defers := fun v => by cases o.dst <;> rfl
    split
    · rename_i hw
      left
      have h3 := g1 hw w hC
      unfold Oper.wp
      generalize (execOp a.eval o).run P w = r at *
      cases r with
      | ok n w' =>
        cases n <;> simp only [Out] at h3 <;> simp only [Oper.upon]
        case value u => exact h _ _ _ h3.1 (ha.put h3.2 _) (pd _) hK
        case skip => exact h _ _ _ h3.1 (ha.put h3.2 _) (pd _) hK
        case enter f args => exact h3.mono fun e w'' ⟨u, he, hu, hw''⟩ => by subst he; exact h _ _ _ hw'' (ha.put hu _) (pd _) hK
      | halt x w' => simp only [Out] at h3
    · rename_i hw
      exact h _ _ _ hC (ha.put (g2 (by simpa using hw)) _) (pd _) hK

theorem wpAny_of_R {Q : Known → Prop} {Q' : Exit → Act → World → Prop} (d0 : List Deferred) (hQ : ∀ A a w, C w → Fits A a → a.defers = d0 → Q A → Q' .normal a w) :
    ∀ (fuel : Nat) (listed : Array Bool) (A : Known) (a : Act) (w : World), C w → Fits A a → a.defers = d0 → wpAnyR P md ops C Q fuel listed A → wpAny P md ops Q' fuel listed a w
  | 0, _, _, _, _, hw, ha, hd, h => ⟨h.1, hQ _ _ _ hw ha hd h.2⟩
  | fuel + 1, _, _, _, _, hw, ha, hd, h =>
    ⟨fun h0 => hQ _ _ _ hw ha hd (h.1 h0), fun i hi => wpOp_of_rOp hw ha (fun A' a' w' hw' ha' hd' hh => wpAny_of_R d0 hQ fuel _ A' a' w' hw' ha' (by rw [hd', hd]) hh) (h.2 i hi)⟩

/-- one operation's set stands when an operation apart from it comes first -/
theorem Gives.back {o q : Oper} {A : Known} {V U : Value → Prop} (hs : ∀ cs b, o.op ≠ .select cs b) (hap : ∀ d, q.dst = some d → d ∉ o.looksAt ops) (hU : ∃ u, U u)
    (h : Gives P ops C o (upd A q.dst U) V) : Gives P ops C o A V := by
  intro a ha
  obtain ⟨u, hu⟩ := hU
  obtain ⟨h1, h2⟩ := h (a.put q.dst u) (ha.put hu _)
  rw [wanted_put o a q.dst u hap] at h1 h2
  rw [execOp_put o hs a q.dst u hap] at h1
  exact ⟨h1, h2⟩

theorem Gives.on {o q : Oper} {A : Known} {V U : Value → Prop} (hs : ∀ cs b, o.op ≠ .select cs b) (hap : ∀ d, q.dst = some d → d ∉ o.looksAt ops) (hA : Sound A)
    (h : Gives P ops C o A V) : Gives P ops C o (upd A q.dst U) V := by
  intro a ha
  cases hd : q.dst with
  | none => rw [hd] at ha; exact h a ha
  | some d =>
    rw [hd] at ha
    -- put back a value that was known
    have hback : ∃ g, Fits A (a.put (some d) g) := by
      cases hS : A[d]? with
      | none =>
        refine ⟨undef, ?_⟩
        have e1 : A.set d U = A := List.set_eq_of_length_le (by rw [List.getElem?_eq_none_iff] at hS; exact hS)
        simp only [upd, e1] at ha
        refine ⟨by simp [Act.put, ha.1], fun t S v hS' hv => ?_⟩
        simp only [Act.put] at hv
        rw [Array.getElem?_setIfInBounds] at hv
        split at hv
        · rename_i hdt; subst hdt; rw [hS] at hS'; cases hS'
        · exact ha.2 t S v hS' hv
      | some S0 =>
        obtain ⟨g, hg⟩ := hA d S0 hS
        refine ⟨g, ?_⟩
        refine ⟨by have := ha.1; simp [upd] at this; simp [Act.put, this], fun t S v hS' hv => ?_⟩
        simp only [Act.put] at hv
        rw [Array.getElem?_setIfInBounds] at hv
        split at hv
        · rename_i hdt
          subst hdt
          split at hv
          · cases hv; rw [hS] at hS'; cases hS'; exact hg
          · cases hv
        · rename_i hdt
          refine ha.2 t S v ?_ hv
          simp only [upd]
          rw [List.getElem?_set, if_neg hdt]; exact hS'
    obtain ⟨g, hg⟩ := hback
    obtain ⟨h1, h2⟩ := h _ hg
    have hap' : ∀ d', (some d : Option Tmp) = some d' → d' ∉ o.looksAt ops := fun d' hd' => hap d' (by rw [hd]; exact hd')
    rw [wanted_put o a (some d) g hap'] at h1 h2
    rw [execOp_put o hs a (some d) g hap'] at h1
    exact ⟨h1, h2⟩

theorem rOp_put {j : Nat} {oi oj : Oper} {V : Value → Prop} (hj : ops[j]? = some oj) (hap : oi.apart ops oj = true)
    (hsi : ∀ cs b, oi.op ≠ .select cs b) (hsj : ∀ cs b, oj.op ≠ .select cs b) {K : Known → Prop} {A : Known} (hA : Sound A) (hne : ∃ a, Fits A a) (hCne : ∃ w, C w)
    (hy : Gives P ops C oi A V) (h : rOp P ops C j K (upd A oi.dst V)) :
    rOp P ops C j (fun A' => (Sound A' ∧ (∃ a, Fits A' a)) ∧ Gives P ops C oi A' V ∧ K (upd A' oi.dst V)) A := by
  obtain ⟨h1, h2, h3⟩ := Oper.apart_spec hap
  obtain ⟨a0, ha0⟩ := hne
  obtain ⟨w0, hw0⟩ := hCne
  unfold rOp at *
  simp only [hj] at *
  obtain ⟨U, g1, g2⟩ := h
  have gj := g1.back hsj h1 (hy.hits ha0 hw0)
  have hUne := gj.hits ha0 hw0
  obtain ⟨u, hu⟩ := hUne
  exact ⟨U, gj, ⟨hA.upd ⟨u, hu⟩ _, ⟨_, ha0.put hu oj.dst⟩⟩, hy.on hsi h3 hA, by rw [← upd_comm A V U h2]; exact g2⟩

theorem wpAnyR_first {Q : Known → Prop} {i : Nat} {oi : Oper} {V : Value → Prop} (hi : ops[i]? = some oi) (hsel : ∀ (j : Nat) (o : Oper) cs b, ops[j]? = some o → o.op ≠ .select cs b) (hCne : ∃ w, C w) :
    ∀ (fuel : Nat) (listed : Array Bool) (A : Known),
      (∀ j oj, ops[j]? = some oj → j ≠ i → listed.getD j true = false → (∀ e ∈ oj.after, Region.binds md e = true → e.on ≠ i) → oi.apart ops oj = true) →
      i ∈ Region.ready md ops listed → (Sound A ∧ ∃ a, Fits A a) → Gives P ops C oi A V →
      wpAnyR P md ops C Q fuel (listed.setIfInBounds i true) (upd A oi.dst V) → wpAnyR P md ops C Q (fuel + 1) listed A := by
  intro fuel
  induction fuel with
  | zero =>
    intro listed A _ hr hA hy H
    refine ⟨fun h => (by rw [h] at hr; cases hr), fun j hj => ?_⟩
    by_cases hji : j = i
    · subst hji; unfold rOp; simp only [hi]; exact ⟨V, hy, H⟩
    · have := ready_mono hj hji
      rw [H.1] at this
      cases this
  | succ fuel ih =>
    intro listed A hfree hr hA hy H
    refine ⟨fun h => (by rw [h] at hr; cases hr), fun j hj => ?_⟩
    by_cases hji : j = i
    · subst hji; unfold rOp; simp only [hi]; exact ⟨V, hy, H⟩
    · have h1 := H.2 j (ready_mono hj hji)
      obtain ⟨hjun, oj, hoj, hall⟩ := mem_ready.1 hj
      have hnot : ∀ e ∈ oj.after, Region.binds md e = true → e.on ≠ i := by
        intro e he hb heq
        have h1 := hall e he hb
        have h0 := (mem_ready.1 hr).1
        rw [heq] at h1
        rcases Nat.lt_or_ge i listed.size with h' | h'
        · simp [h'] at h0 h1; rw [h0] at h1; cases h1
        · simp [Array.getElem?_eq_none h'] at h1
      have h2 := rOp_put hoj (hfree j oj hoj hji hjun hnot) (fun cs b => hsel i oi cs b hi) (fun cs b => hsel j oj cs b hoj) hA.1 hA.2 hCne hy h1
      have hfree' : ∀ k ok, ops[k]? = some ok → k ≠ i → (listed.setIfInBounds j true).getD k true = false →
          (∀ e ∈ ok.after, Region.binds md e = true → e.on ≠ i) → oi.apart ops ok = true := by
        intro k ok hk hki hun hno
        refine hfree k ok hk hki ?_ hno
        by_cases hjk : j = k
        · subst hjk; exact hjun
        · rw [getD_set_ne true hjk] at hun; exact hun
      refine rOp_mono (fun A' h3 => ih (listed.setIfInBounds j true) A' hfree' (ready_mono hr (Ne.symm hji)) h3.1 h3.2.1 ?_) h2
      rw [Array.setIfInBounds_comm _ _ hji]
      exact h3.2.2

theorem wpAnyR_lex {Q : Known → Prop} (hs : Region.noSelect ops = true) (hCne : ∃ w, C w) : ∀ (l : List Oper) (k : Nat) (listed : Array Bool) (A : Known), (∀ j, l[j]? = ops[k + j]?) →
    Region.lexFrom md ops l.length k listed = true → (Sound A ∧ ∃ a, Fits A a) → wpR P ops C Q l A → wpAnyR P md ops C Q l.length listed A
  | [], _, _, _, _, hB, _, h => ⟨by simpa [Region.lexFrom] using hB, h⟩
  | o :: l, k, listed, A, hl, hB, hA, h => by
    have h0 : ops[k]? = some o := by simpa using (hl 0).symm
    simp only [List.length_cons, Region.lexFrom, Bool.and_eq_true] at hB
    obtain ⟨⟨hr, hf⟩, hB'⟩ := hB
    obtain ⟨V, hg, hK⟩ := h
    obtain ⟨hS, a0, ha0⟩ := hA
    obtain ⟨w0, hw0⟩ := hCne
    obtain ⟨v, hv⟩ := hg.hits ha0 hw0
    exact wpAnyR_first h0 (Region.noSelect_spec hs) ⟨w0, hw0⟩ l.length listed A (Region.free_spec h0 hf) (by simpa using hr) ⟨hS, a0, ha0⟩ hg
      (wpAnyR_lex hs ⟨w0, hw0⟩ l (k + 1) _ _ (fun j => by have := hl (j + 1); simpa [Nat.add_assoc, Nat.add_comm 1 j] using this) hB' ⟨hS.upd ⟨v, hv⟩ _, _, ha0.put hv _⟩ hK)

/-- **a region that draws its order, in a world 'w', the slots being 'tmps'** -/
theorem wp_region_R {id : Nat} {Q : Exit → Act → World → Prop} {tmps : List Value} {D : List Deferred} {w : World} {l : List Oper} (hm : P.follows .mixedOrders = true) (hB : Region.lexB .any l.toArray = true)
    (h : wpR P l.toArray (fun w' => ∃ n, w' = w.drewN n) (fun A' => ∀ a' n, Fits A' a' → a'.defers = D → Q .normal a' (w.drewN n)) l (tmps.map Is1)) :
    (Code.region id l.toArray true).wp P Q ⟨tmps.toArray, D⟩ w := by
  simp only [Region.lexB, Bool.and_eq_true] at hB
  have hfit : Fits (tmps.map Is1) ⟨tmps.toArray, D⟩ := by
    refine ⟨by simp, fun t S v hS hv => ?_⟩
    simp at hS hv
    obtain ⟨u, hu, rfl⟩ := hS
    rw [hu] at hv
    cases hv; rfl
  have hsound : Sound (tmps.map Is1) := by
    intro t S hS
    simp at hS
    obtain ⟨u, _, rfl⟩ := hS
    exact ⟨u, rfl⟩
  refine wp_region_any hm (wpAny_of_R (C := fun w' => ∃ n, w' = w.drewN n) (Q := fun A' => ∀ a' n, Fits A' a' → a'.defers = D → Q .normal a' (w.drewN n)) D
    (fun A a w' hw ha hd hq => by obtain ⟨n, rfl⟩ := hw; exact hq a n ha hd) _ _ _ _ _ ⟨1, rfl⟩ hfit rfl ?_)
  have := wpAnyR_lex (C := fun w' => ∃ n, w' = w.drewN n) (md := .any) hB.1 ⟨w, 0, rfl⟩ l 0 (Array.replicate l.length false) (tmps.map Is1) (by simp) (by simpa using hB.2) ⟨hsound, _, hfit⟩ h
  simpa using this

end
end Go.Rg
end

/-
  THE STEPS OF THE WALK THROUGH A REGION THAT DRAWS ITS ORDER, slot by slot as sets. (No program here.)
-/
section
set_option linter.unusedVariables false
set_option linter.unusedSimpArgs false
namespace Go.Rg
open Go Go.Fl

/-- some word for 'X' -/
def IsF (k : FloatKind) (X : Nat) : Value → Prop := fun u => ∃ r, u = .float k r ∧ Is k r X

def slotS (A : Known) : Operand → (Value → Prop)
  | .tmp t => A.getD t (Is1 undef)
  | .const v => Is1 v
  | .global g => Is1 (.pointer (some ⟨g, 0, none⟩))
  | .func f => Is1 (.func (.func f) #[] #[])

theorem fits_eval {A : Known} {a : Act} (h : Fits A a) (x : Operand) : slotS A x (a.eval x) := by
  cases x with
  | tmp t =>
    show (A.getD t (Is1 undef)) (a.tmps.getD t undef)
    rw [List.getD_eq_getElem?_getD, Array.getD_eq_getD_getElem?]
    cases hS : A[t]? with
    | none =>
      have : a.tmps[t]? = none := by
        rw [List.getElem?_eq_none_iff] at hS
        rw [Array.getElem?_eq_none_iff, ← h.1]; exact hS
      rw [this]; rfl
    | some S =>
      have hlt := (List.getElem?_eq_some_iff.1 hS).1
      cases hv : a.tmps[t]? with
      | none => rw [Array.getElem?_eq_none_iff, ← h.1] at hv; omega
      | some v => exact h.2 t S v hS hv
  | const v => rfl
  | global g => rfl
  | func f => rfl

section
variable {P : Program} {ops : Array Oper} {w : World} {Q : Known → Prop} {rest : List Oper} {A : Known} {dst : Option Tmp} {ty : TypeId} {pos : String} {after : Array Edge} {guard : Option (Nat × Bool)} {x y z : Operand} {t t' : TypeId}

/-- the worlds: 'w' after some draws -/
abbrev Cw (w : World) : World → Prop := fun w' => ∃ n, w' = w.drewN n

/-- the guard says yes in every frame that is as is known -/
def Yes (ops : Array Oper) (A : Known) (o : Oper) : Prop := ∀ a, Fits A a → Region.wanted o (yielded ops a.tmps) = true

theorem yes_none {o : Op} : Yes ops A ⟨dst, o, ty, pos, after, none⟩ := fun _ _ => rfl
theorem guard_is {j d : Nat} {c : Bool} (h1 : (ops[j]?).bind (·.dst) = some d) (h2 : A[d]? = some (Is1 (.bool c))) {a : Act} (ha : Fits A a) : yielded ops a.tmps j = some c := by
  unfold yielded
  rw [h1]
  have hlt := (List.getElem?_eq_some_iff.1 h2).1
  cases hv : a.tmps[d]? with
  | none => rw [Array.getElem?_eq_none_iff, ← ha.1] at hv; omega
  | some v =>
    have := ha.2 d _ v h2 hv
    show (match a.tmps[d]? with | some (.bool b) => some b | _ => none) = some c
    rw [hv]
    have e : v = .bool c := this
    rw [e]
theorem yes_some {o : Op} {j d : Nat} {b : Bool} (h1 : (ops[j]?).bind (·.dst) = some d) (h2 : A[d]? = some (Is1 (.bool b))) : Yes ops A ⟨dst, o, ty, pos, after, some (j, b)⟩ := by
  intro a ha
  show (yielded ops a.tmps j == some b) = true
  rw [guard_is h1 h2 ha]; simp

theorem wpR_skip {o : Op} {j d : Nat} {b c : Bool} (h1 : (ops[j]?).bind (·.dst) = some d) (h2 : A[d]? = some (Is1 (.bool c))) (hne : (c == b) = false)
    (h : wpR P ops (Cw w) Q rest (upd A dst (Is1 undef))) : wpR P ops (Cw w) Q (⟨dst, o, ty, pos, after, some (j, b)⟩ :: rest) A := by
  refine ⟨_, ?_, h⟩
  intro a ha
  have e : Region.wanted ⟨dst, o, ty, pos, after, some (j, b)⟩ (yielded ops a.tmps) = false := by
    show (yielded ops a.tmps j == some b) = false
    rw [guard_is h1 h2 ha]; simpa using hne
  rw [e]
  exact ⟨fun h => (by cases h), fun _ => rfl⟩

theorem gives_run {o : Oper} {V : Value → Prop} (hy : Yes ops A o) (h : ∀ a, Fits A a → ∀ n, ∃ u m, (execOp a.eval o).run P (w.drewN n) = .ok (.value u) (w.drewN m) ∧ V u) : Gives P ops (Cw w) o A V := by
  intro a ha
  rw [hy a ha]
  refine ⟨fun _ w' hw' => ?_, fun h => by cases h⟩
  obtain ⟨n, rfl⟩ := hw'
  obtain ⟨u, m, h1, h2⟩ := h a ha n
  rw [h1]
  exact ⟨⟨m, rfl⟩, h2⟩

theorem wpR_move (hy : Yes ops A ⟨dst, .move x, ty, pos, after, guard⟩) {S : Value → Prop} (hS : slotS A x = S) (h : wpR P ops (Cw w) Q rest (upd A dst S)) :
    wpR P ops (Cw w) Q (⟨dst, .move x, ty, pos, after, guard⟩ :: rest) A := by
  subst hS
  exact ⟨_, gives_run hy fun a ha n => ⟨_, n, rfl, fits_eval ha x⟩, h⟩
theorem wpR_assign (hy : Yes ops A ⟨dst, .assign x, ty, pos, after, guard⟩) {S : Value → Prop} (hS : slotS A x = S) (h : wpR P ops (Cw w) Q rest (upd A dst S)) :
    wpR P ops (Cw w) Q (⟨dst, .assign x, ty, pos, after, guard⟩ :: rest) A := by
  subst hS
  exact ⟨_, gives_run hy fun a ha n => ⟨_, n, rfl, fits_eval ha x⟩, h⟩
theorem wpR_pick {c : Bool} (hy : Yes ops A ⟨dst, .pick x y z, ty, pos, after, guard⟩) (hc : slotS A x = Is1 (.bool c)) {S : Value → Prop} (hS : slotS A (if c then y else z) = S)
    (h : wpR P ops (Cw w) Q rest (upd A dst S)) : wpR P ops (Cw w) Q (⟨dst, .pick x y z, ty, pos, after, guard⟩ :: rest) A := by
  subst hS
  refine ⟨_, gives_run hy fun a ha n => ⟨a.eval (if c then y else z), n, ?_, fits_eval ha _⟩, h⟩
  have e : a.eval x = .bool c := by have := fits_eval ha x; rw [hc] at this; exact this
  cases c <;> simp [execOp, e, asBool]

/-- a set of words for 'X' -/
def SubF (S : Value → Prop) (k : FloatKind) (X : Nat) : Prop := ∀ v, S v → ∃ b, v = .float k b ∧ Is k b X
theorem subF_is (k : FloatKind) (X : Nat) : SubF (IsF k X) k X := fun v h => h
theorem subF_eq {k : FloatKind} {b X : Nat} (h : Is k b X) : SubF (Is1 (.float k b)) k X := fun v hv => ⟨b, hv, h⟩

theorem sub_eval {S : Value → Prop} {k : FloatKind} {X : Nat} {a : Act} (ha : Fits A a) (hS : slotS A x = S) (h : SubF S k X) : ∃ b, a.eval x = .float k b ∧ Is k b X := by
  subst hS; exact h _ (fits_eval ha x)

theorem wpR_fop {op : BinOp} (hop : op = .add ∨ op = .sub ∨ op = .mul ∨ op = .quo) {k : FloatKind} {X Y : Nat} {S T : Value → Prop} (hy : Yes ops A ⟨dst, .binOp op t x y t', ty, pos, after, guard⟩)
    (hS : slotS A x = S) (hT : slotS A y = T) (hX : SubF S k X) (hY : SubF T k Y) (h : wpR P ops (Cw w) Q rest (upd A dst (IsF k (fop op k X Y)))) :
    wpR P ops (Cw w) Q (⟨dst, .binOp op t x y t', ty, pos, after, guard⟩ :: rest) A := by
  refine ⟨_, gives_run hy fun a ha n => ?_, h⟩
  obtain ⟨b, e1, h1⟩ := sub_eval ha hS hX
  obtain ⟨c, e2, h2⟩ := sub_eval ha hT hY
  obtain ⟨r, m, hrun, hr⟩ := run_fop (P := P) (w.drewN n) op hop t k b c
  rw [h1.2, h2.2] at hr
  rw [World.drewN_drewN] at hrun
  exact ⟨_, _, run_exec_binOp e1 e2 hrun, r, rfl, hr⟩
theorem wpR_fadd {k : FloatKind} {X Y : Nat} {S T : Value → Prop} (hy : Yes ops A ⟨dst, .binOp .add t x y t', ty, pos, after, guard⟩)
    (hS : slotS A x = S) (hT : slotS A y = T) (hX : SubF S k X) (hY : SubF T k Y) (h : wpR P ops (Cw w) Q rest (upd A dst (IsF k (fop .add k X Y)))) :
    wpR P ops (Cw w) Q (⟨dst, .binOp .add t x y t', ty, pos, after, guard⟩ :: rest) A := wpR_fop (by simp) hy hS hT hX hY h
theorem wpR_fsub {k : FloatKind} {X Y : Nat} {S T : Value → Prop} (hy : Yes ops A ⟨dst, .binOp .sub t x y t', ty, pos, after, guard⟩)
    (hS : slotS A x = S) (hT : slotS A y = T) (hX : SubF S k X) (hY : SubF T k Y) (h : wpR P ops (Cw w) Q rest (upd A dst (IsF k (fop .sub k X Y)))) :
    wpR P ops (Cw w) Q (⟨dst, .binOp .sub t x y t', ty, pos, after, guard⟩ :: rest) A := wpR_fop (by simp) hy hS hT hX hY h
theorem wpR_fmul {k : FloatKind} {X Y : Nat} {S T : Value → Prop} (hy : Yes ops A ⟨dst, .binOp .mul t x y t', ty, pos, after, guard⟩)
    (hS : slotS A x = S) (hT : slotS A y = T) (hX : SubF S k X) (hY : SubF T k Y) (h : wpR P ops (Cw w) Q rest (upd A dst (IsF k (fop .mul k X Y)))) :
    wpR P ops (Cw w) Q (⟨dst, .binOp .mul t x y t', ty, pos, after, guard⟩ :: rest) A := wpR_fop (by simp) hy hS hT hX hY h
theorem wpR_fquo {k : FloatKind} {X Y : Nat} {S T : Value → Prop} (hy : Yes ops A ⟨dst, .binOp .quo t x y t', ty, pos, after, guard⟩)
    (hS : slotS A x = S) (hT : slotS A y = T) (hX : SubF S k X) (hY : SubF T k Y) (h : wpR P ops (Cw w) Q rest (upd A dst (IsF k (fop .quo k X Y)))) :
    wpR P ops (Cw w) Q (⟨dst, .binOp .quo t x y t', ty, pos, after, guard⟩ :: rest) A := wpR_fop (by simp) hy hS hT hX hY h

theorem wpR_cmp {op : BinOp} {k : FloatKind} {X Y : Nat} {S T : Value → Prop} {c : Bool} (hc : ∀ b d, Is k b X → Is k d Y → binOp op t (.float k b) (.float k d) = pure (.bool c))
    (hy : Yes ops A ⟨dst, .binOp op t x y t', ty, pos, after, guard⟩)
    (hS : slotS A x = S) (hT : slotS A y = T) (hX : SubF S k X) (hY : SubF T k Y) (h : wpR P ops (Cw w) Q rest (upd A dst (Is1 (.bool c)))) :
    wpR P ops (Cw w) Q (⟨dst, .binOp op t x y t', ty, pos, after, guard⟩ :: rest) A := by
  refine ⟨_, gives_run hy fun a ha n => ?_, h⟩
  obtain ⟨b, e1, h1⟩ := sub_eval ha hS hX
  obtain ⟨d, e2, h2⟩ := sub_eval ha hT hY
  exact ⟨_, n, run_exec_binOp e1 e2 (by rw [hc b d h1 h2]; rfl), rfl⟩
theorem wpR_feq {k : FloatKind} {X Y : Nat} {S T : Value → Prop} (hy : Yes ops A ⟨dst, .binOp .eql t x y t', ty, pos, after, guard⟩)
    (hS : slotS A x = S) (hT : slotS A y = T) (hX : SubF S k X) (hY : SubF T k Y) (h : wpR P ops (Cw w) Q rest (upd A dst (Is1 (.bool (feq k X Y))))) :
    wpR P ops (Cw w) Q (⟨dst, .binOp .eql t x y t', ty, pos, after, guard⟩ :: rest) A :=
  wpR_cmp (fun b d h1 h2 => by rw [binOp_float_cmp_eql, ord_is h1 h2]; unfold feq; rfl) hy hS hT hX hY h
theorem wpR_fne {k : FloatKind} {X Y : Nat} {S T : Value → Prop} (hy : Yes ops A ⟨dst, .binOp .neq t x y t', ty, pos, after, guard⟩)
    (hS : slotS A x = S) (hT : slotS A y = T) (hX : SubF S k X) (hY : SubF T k Y) (h : wpR P ops (Cw w) Q rest (upd A dst (Is1 (.bool (fne k X Y))))) :
    wpR P ops (Cw w) Q (⟨dst, .binOp .neq t x y t', ty, pos, after, guard⟩ :: rest) A :=
  wpR_cmp (fun b d h1 h2 => by rw [binOp_float_cmp_neq, ord_is h1 h2]; unfold fne; rfl) hy hS hT hX hY h
theorem wpR_flt {k : FloatKind} {X Y : Nat} {S T : Value → Prop} (hy : Yes ops A ⟨dst, .binOp .lss t x y t', ty, pos, after, guard⟩)
    (hS : slotS A x = S) (hT : slotS A y = T) (hX : SubF S k X) (hY : SubF T k Y) (h : wpR P ops (Cw w) Q rest (upd A dst (Is1 (.bool (flt k X Y))))) :
    wpR P ops (Cw w) Q (⟨dst, .binOp .lss t x y t', ty, pos, after, guard⟩ :: rest) A :=
  wpR_cmp (fun b d h1 h2 => by rw [binOp_float_cmp_lss, ord_is h1 h2]; unfold flt; rfl) hy hS hT hX hY h
theorem wpR_fgt {k : FloatKind} {X Y : Nat} {S T : Value → Prop} (hy : Yes ops A ⟨dst, .binOp .gtr t x y t', ty, pos, after, guard⟩)
    (hS : slotS A x = S) (hT : slotS A y = T) (hX : SubF S k X) (hY : SubF T k Y) (h : wpR P ops (Cw w) Q rest (upd A dst (Is1 (.bool (fgt k X Y))))) :
    wpR P ops (Cw w) Q (⟨dst, .binOp .gtr t x y t', ty, pos, after, guard⟩ :: rest) A :=
  wpR_cmp (fun b d h1 h2 => by rw [binOp_float_cmp_gtr, ord_is h1 h2]; unfold fgt; rfl) hy hS hT hX hY h
theorem wpR_fge {k : FloatKind} {X Y : Nat} {S T : Value → Prop} (hy : Yes ops A ⟨dst, .binOp .geq t x y t', ty, pos, after, guard⟩)
    (hS : slotS A x = S) (hT : slotS A y = T) (hX : SubF S k X) (hY : SubF T k Y) (h : wpR P ops (Cw w) Q rest (upd A dst (Is1 (.bool (fge k X Y))))) :
    wpR P ops (Cw w) Q (⟨dst, .binOp .geq t x y t', ty, pos, after, guard⟩ :: rest) A :=
  wpR_cmp (fun b d h1 h2 => by rw [binOp_float_cmp_geq, ord_is h1 h2]; unfold fge; rfl) hy hS hT hX hY h

theorem wpR_widen {src d : TypeId} {us : TypeDesc} (hs : P.underlying src = some us) (hd : P.underlying d = some (.float .f64)) {X : Nat} {S : Value → Prop}
    (hy : Yes ops A ⟨dst, .convert src d x, ty, pos, after, guard⟩) (hS : slotS A x = S) (hX : SubF S .f32 X) (h : wpR P ops (Cw w) Q rest (upd A dst (IsF .f64 (wid X)))) :
    wpR P ops (Cw w) Q (⟨dst, .convert src d x, ty, pos, after, guard⟩ :: rest) A := by
  refine ⟨_, gives_run hy fun a ha n => ?_, h⟩
  obtain ⟨b, e1, h1⟩ := sub_eval ha hS hX
  obtain ⟨r, m, hrun, hr⟩ := run_conv (P := P) (w.drewN n) src d .f32 .f64 (by decide) hs hd b (widen_ok h1.1)
  rw [h1.2] at hr
  rw [World.drewN_drewN] at hrun
  refine ⟨.float .f64 r, n + m, ?_, r, rfl, ?_⟩
  · simp [execOp, e1, hrun]
  · unfold wid; exact hr

/-- any operation all of whose operands are known outright: one operand, two -/
theorem wpR_one {o : Op} {v u : Value} (x : Operand) (hy : Yes ops A ⟨dst, o, ty, pos, after, guard⟩) (hx : slotS A x = Is1 v)
    (hrun : ∀ (ρ : Operand → Value) (n : Nat), ρ x = v → (execOp ρ ⟨dst, o, ty, pos, after, guard⟩).run P (w.drewN n) = .ok (.value u) (w.drewN n)) (h : wpR P ops (Cw w) Q rest (upd A dst (Is1 u))) :
    wpR P ops (Cw w) Q (⟨dst, o, ty, pos, after, guard⟩ :: rest) A := by
  refine ⟨Is1 u, gives_run hy fun a ha n => ⟨u, n, hrun a.eval n ?_, rfl⟩, h⟩
  have := fits_eval ha x; rw [hx] at this; exact this
theorem wpR_two {o : Op} {v v' u : Value} (x y : Operand) (hy : Yes ops A ⟨dst, o, ty, pos, after, guard⟩) (hx : slotS A x = Is1 v) (hx' : slotS A y = Is1 v')
    (hrun : ∀ (ρ : Operand → Value) (n : Nat), ρ x = v → ρ y = v' → (execOp ρ ⟨dst, o, ty, pos, after, guard⟩).run P (w.drewN n) = .ok (.value u) (w.drewN n)) (h : wpR P ops (Cw w) Q rest (upd A dst (Is1 u))) :
    wpR P ops (Cw w) Q (⟨dst, o, ty, pos, after, guard⟩ :: rest) A := by
  refine ⟨Is1 u, gives_run hy fun a ha n => ⟨u, n, hrun a.eval n ?_ ?_, rfl⟩, h⟩
  · have := fits_eval ha x; rw [hx] at this; exact this
  · have := fits_eval ha y; rw [hx'] at this; exact this

theorem wpR_indexAddr {v v' u : Value} (hy : Yes ops A ⟨dst, .indexAddr t x y, ty, pos, after, guard⟩) (hx : slotS A x = Is1 v) (hx' : slotS A y = Is1 v')
    (hrun : ∀ (ρ : Operand → Value) (n : Nat), ρ x = v → ρ y = v' → (execOp ρ ⟨dst, .indexAddr t x y, ty, pos, after, guard⟩).run P (w.drewN n) = .ok (.value u) (w.drewN n)) (h : wpR P ops (Cw w) Q rest (upd A dst (Is1 u))) :
    wpR P ops (Cw w) Q (⟨dst, .indexAddr t x y, ty, pos, after, guard⟩ :: rest) A := wpR_two x y hy hx hx' hrun h
theorem wpR_binOp {bo : BinOp} {v v' u : Value} (hy : Yes ops A ⟨dst, .binOp bo t x y t', ty, pos, after, guard⟩) (hx : slotS A x = Is1 v) (hx' : slotS A y = Is1 v')
    (hrun : ∀ (ρ : Operand → Value) (n : Nat), ρ x = v → ρ y = v' → (execOp ρ ⟨dst, .binOp bo t x y t', ty, pos, after, guard⟩).run P (w.drewN n) = .ok (.value u) (w.drewN n)) (h : wpR P ops (Cw w) Q rest (upd A dst (Is1 u))) :
    wpR P ops (Cw w) Q (⟨dst, .binOp bo t x y t', ty, pos, after, guard⟩ :: rest) A := wpR_two x y hy hx hx' hrun h
theorem wpR_load {v u : Value} (hy : Yes ops A ⟨dst, .load t x, ty, pos, after, guard⟩) (hx : slotS A x = Is1 v)
    (hrun : ∀ (ρ : Operand → Value) (n : Nat), ρ x = v → (execOp ρ ⟨dst, .load t x, ty, pos, after, guard⟩).run P (w.drewN n) = .ok (.value u) (w.drewN n)) (h : wpR P ops (Cw w) Q rest (upd A dst (Is1 u))) :
    wpR P ops (Cw w) Q (⟨dst, .load t x, ty, pos, after, guard⟩ :: rest) A := wpR_one x hy hx hrun h
theorem wpR_unOp {uo : UnOp} {v u : Value} (hy : Yes ops A ⟨dst, .unOp uo t x, ty, pos, after, guard⟩) (hx : slotS A x = Is1 v)
    (hrun : ∀ (ρ : Operand → Value) (n : Nat), ρ x = v → (execOp ρ ⟨dst, .unOp uo t x, ty, pos, after, guard⟩).run P (w.drewN n) = .ok (.value u) (w.drewN n)) (h : wpR P ops (Cw w) Q rest (upd A dst (Is1 u))) :
    wpR P ops (Cw w) Q (⟨dst, .unOp uo t x, ty, pos, after, guard⟩ :: rest) A := wpR_one x hy hx hrun h
theorem wpR_convert {v u : Value} (hy : Yes ops A ⟨dst, .convert t t' x, ty, pos, after, guard⟩) (hx : slotS A x = Is1 v)
    (hrun : ∀ (ρ : Operand → Value) (n : Nat), ρ x = v → (execOp ρ ⟨dst, .convert t t' x, ty, pos, after, guard⟩).run P (w.drewN n) = .ok (.value u) (w.drewN n)) (h : wpR P ops (Cw w) Q rest (upd A dst (Is1 u))) :
    wpR P ops (Cw w) Q (⟨dst, .convert t t' x, ty, pos, after, guard⟩ :: rest) A := wpR_one x hy hx hrun h
theorem wpR_field {fi : Nat} {v u : Value} (hy : Yes ops A ⟨dst, .field t x fi, ty, pos, after, guard⟩) (hx : slotS A x = Is1 v)
    (hrun : ∀ (ρ : Operand → Value) (n : Nat), ρ x = v → (execOp ρ ⟨dst, .field t x fi, ty, pos, after, guard⟩).run P (w.drewN n) = .ok (.value u) (w.drewN n)) (h : wpR P ops (Cw w) Q rest (upd A dst (Is1 u))) :
    wpR P ops (Cw w) Q (⟨dst, .field t x fi, ty, pos, after, guard⟩ :: rest) A := wpR_one x hy hx hrun h
theorem wpR_fieldAddr {fi : Nat} {v u : Value} (hy : Yes ops A ⟨dst, .fieldAddr t x fi, ty, pos, after, guard⟩) (hx : slotS A x = Is1 v)
    (hrun : ∀ (ρ : Operand → Value) (n : Nat), ρ x = v → (execOp ρ ⟨dst, .fieldAddr t x fi, ty, pos, after, guard⟩).run P (w.drewN n) = .ok (.value u) (w.drewN n)) (h : wpR P ops (Cw w) Q rest (upd A dst (Is1 u))) :
    wpR P ops (Cw w) Q (⟨dst, .fieldAddr t x fi, ty, pos, after, guard⟩ :: rest) A := wpR_one x hy hx hrun h
theorem wpR_nilCheck {v u : Value} (hy : Yes ops A ⟨dst, .nilCheck x, ty, pos, after, guard⟩) (hx : slotS A x = Is1 v)
    (hrun : ∀ (ρ : Operand → Value) (n : Nat), ρ x = v → (execOp ρ ⟨dst, .nilCheck x, ty, pos, after, guard⟩).run P (w.drewN n) = .ok (.value u) (w.drewN n)) (h : wpR P ops (Cw w) Q rest (upd A dst (Is1 u))) :
    wpR P ops (Cw w) Q (⟨dst, .nilCheck x, ty, pos, after, guard⟩ :: rest) A := wpR_one x hy hx hrun h
theorem wpR_builtin1 {bi : Builtin} {ats : Array TypeId} {v u : Value} (hy : Yes ops A ⟨dst, .call { callee := .builtin bi, args := #[x], argTypes := ats }, ty, pos, after, guard⟩) (hx : slotS A x = Is1 v)
    (hrun : ∀ (ρ : Operand → Value) (n : Nat), ρ x = v → (execOp ρ ⟨dst, .call { callee := .builtin bi, args := #[x], argTypes := ats }, ty, pos, after, guard⟩).run P (w.drewN n) = .ok (.value u) (w.drewN n)) (h : wpR P ops (Cw w) Q rest (upd A dst (Is1 u))) :
    wpR P ops (Cw w) Q (⟨dst, .call { callee := .builtin bi, args := #[x], argTypes := ats }, ty, pos, after, guard⟩ :: rest) A := wpR_one x hy hx hrun h

/-- a call of a named function: two arguments, one -/
theorem wpR_call2 {f : FuncId} {ats : Array TypeId} {S T V : Value → Prop} (hin : ∀ (xs : Array Value) (w' : World), (callFunc f xs).run P w' = .ok (.enter f xs) w')
    (hy : Yes ops A ⟨dst, .call { callee := .value (.func f), args := #[x, y], argTypes := ats }, ty, pos, after, guard⟩) (hS : slotS A x = S) (hT : slotS A y = T)
    (hcall : ∀ u v n, S u → T v → Calls P f #[u, v] (w.drewN n) fun e w'' => ∃ r, e = .returned r ∧ V r ∧ ∃ m, w'' = w.drewN m) (h : wpR P ops (Cw w) Q rest (upd A dst V)) :
    wpR P ops (Cw w) Q (⟨dst, .call { callee := .value (.func f), args := #[x, y], argTypes := ats }, ty, pos, after, guard⟩ :: rest) A := by
  subst hS; subst hT
  refine ⟨_, ?_, h⟩
  intro a ha
  rw [hy a ha]
  refine ⟨fun _ w' hw' => ?_, fun h => by cases h⟩
  obtain ⟨n, rfl⟩ := hw'
  rw [execOp_call_go]
  have e : (#[] ++ Array.map a.eval #[x, y] ++ #[] : Array Value) = #[a.eval x, a.eval y] := by simp
  rw [e, hin]
  exact hcall _ _ n (fits_eval ha x) (fits_eval ha y)
theorem wpR_call1 {f : FuncId} {ats : Array TypeId} {S V : Value → Prop} (hin : ∀ (xs : Array Value) (w' : World), (callFunc f xs).run P w' = .ok (.enter f xs) w')
    (hy : Yes ops A ⟨dst, .call { callee := .value (.func f), args := #[x], argTypes := ats }, ty, pos, after, guard⟩) (hS : slotS A x = S)
    (hcall : ∀ u n, S u → Calls P f #[u] (w.drewN n) fun e w'' => ∃ r, e = .returned r ∧ V r ∧ ∃ m, w'' = w.drewN m) (h : wpR P ops (Cw w) Q rest (upd A dst V)) :
    wpR P ops (Cw w) Q (⟨dst, .call { callee := .value (.func f), args := #[x], argTypes := ats }, ty, pos, after, guard⟩ :: rest) A := by
  subst hS
  refine ⟨_, ?_, h⟩
  intro a ha
  rw [hy a ha]
  refine ⟨fun _ w' hw' => ?_, fun h => by cases h⟩
  obtain ⟨n, rfl⟩ := hw'
  rw [execOp_call_go]
  have e : (#[] ++ Array.map a.eval #[x] ++ #[] : Array Value) = #[a.eval x] := by simp
  rw [e, hin]
  exact hcall _ n (fits_eval ha x)

theorem enters {f : FuncId} {fn : Func} (hf : P.funcs[f]? = some fn) (h1 : (fn.name == "runtime.NumGoroutine") = false) (h2 : fn.body.isNone = false) (xs : Array Value) (w' : World) :
    (callFunc f xs).run P w' = .ok (.enter f xs) w' := by
  have h1' : fn.name ≠ "runtime.NumGoroutine" := by simpa using h1
  have h2' : ¬ fn.body = none := by intro e; rw [e] at h2; simp at h2
  simp [callFunc, hf, h1', h2']

theorem of_vret {f : FuncId} {args : Array Value} {n : Nat} {v : Value} {V : Value → Prop} (h : Calls P f args (w.drewN n) (VRet v (w.drewN n))) (hv : V v) :
    Calls P f args (w.drewN n) fun e w'' => ∃ r, e = .returned r ∧ V r ∧ ∃ m, w'' = w.drewN m := by
  refine h.mono ?_
  rintro e w'' ⟨h3, m, h4⟩
  exact ⟨_, h3, hv, n + m, by rw [h4, World.drewN_drewN]⟩
theorem of_fret {f : FuncId} {args : Array Value} {n : Nat} {k : FloatKind} {X : Nat} (h : Calls P f args (w.drewN n) (FRet k X (w.drewN n))) :
    Calls P f args (w.drewN n) fun e w'' => ∃ r, e = .returned r ∧ IsF k X r ∧ ∃ m, w'' = w.drewN m := by
  refine h.mono ?_
  rintro e w'' ⟨r, h3, hr, m, h4⟩
  exact ⟨_, h3, ⟨r, rfl, hr⟩, n + m, by rw [h4, World.drewN_drewN]⟩

/-! ### behind the region -/
inductive All2 : Known → List Value → Prop
  | nil : All2 [] []
  | cons {S : Value → Prop} {v : Value} {A : Known} {l : List Value} (h : S v) (r : All2 A l) : All2 (S :: A) (v :: l)

theorem all2_of : ∀ (A : Known) (l : List Value), A.length = l.length → (∀ (t : Nat) (S : Value → Prop) (v : Value), A[t]? = some S → l[t]? = some v → S v) → All2 A l
  | [], [], _, _ => .nil
  | [], _ :: _, h, _ => by cases h
  | _ :: _, [], h, _ => by cases h
  | S :: A, v :: l, h, H => .cons (H 0 S v rfl rfl) (all2_of A l (by simpa using h) fun t S' v' h1 h2 => H (t + 1) S' v' (by simpa using h1) (by simpa using h2))

theorem wpR_end {Q' : Exit → Act → World → Prop} {D : List Deferred} (h : ∀ n l, All2 A l → Q' .normal ⟨l.toArray, D⟩ (w.drewN n)) :
    wpR P ops (Cw w) (fun A' => ∀ a' n, Fits A' a' → a'.defers = D → Q' .normal a' (w.drewN n)) [] A := by
  intro a' n ha hd
  obtain ⟨tmps, defers⟩ := a'
  cases hd
  have := h n tmps.toList (all2_of _ _ (by simpa using ha.1) fun t S v h1 h2 => ha.2 t S v h1 (by simpa using h2))
  simpa using this

theorem all2_is1 {G : List Value → Prop} {c : Value} (h : ∀ l, All2 A l → G (c :: l)) : ∀ l, All2 (Is1 c :: A) l → G l := by
  intro l hl
  cases hl with
  | cons h1 r => cases h1; exact h _ r
theorem all2_isF {G : List Value → Prop} {k : FloatKind} {X : Nat} (h : ∀ b, Is k b X → ∀ l, All2 A l → G (.float k b :: l)) : ∀ l, All2 (IsF k X :: A) l → G l := by
  intro l hl
  cases hl with
  | cons h1 r => obtain ⟨b, rfl, hb⟩ := h1; exact h b hb _ r
theorem all2_nil {G : List Value → Prop} (h : G []) : ∀ l, All2 [] l → G l := by
  intro l hl
  cases hl; exact h
end
end Go.Rg
end

/-
  CONTRACTS: numbers out of bytes.
-/
section
set_option linter.unusedSimpArgs false
set_option linter.unusedVariables false
namespace Go.Proofs.Ytianaalokclklaa
open Go.RowKit Go.Fl

def AtRet (m : Nat) (w : World) (e : Ending) (w' : World) : Prop := ∃ r : Nat, e = .returned (.int .i64 (r : Int)) ∧ r < m ∧ w = w'
theorem at_mk {m : Nat} {z : Int} (w : World) (h : 0 ≤ z) (h' : z < (m : Int)) : AtRet m w (.returned (.int .i64 z)) w :=
  ⟨z.toNat, by rw [Int.toNat_of_nonneg h], by omega, rfl⟩

theorem b10At_any (w : World) (ao : Option Addr) (n c : Nat) (z : Nat → Int) (hA : IRow .u8 w ao n z) (i : Nat) (hi : i < 10) (m : Nat) (hm : 2 ≤ m) (hm' : m ≤ 1000) (hn : n ≤ 1048576) :
    Calls Try.prog 5 #[.slice ao n c, .int .i64 (i : Int), .int .i64 (m : Int)] w (AtRet m w) := by
  have hA' := Lib.hid hA
  clear hA
  by_cases hlt : i < n
  · obtain ⟨b, off, rfl, hb, hcell⟩ := hA'.out.at0 (by omega)
    have h1 := hcell i hlt
    clear hcell
    have hz := u8_wf (hA'.out.wf i hlt)
    obtain ⟨hz1, hz2⟩ := hz
    go_enter Try.func5, Try.ntmps5
    go_wp2
    go_ret
    exact at_mk _ (Int.emod_nonneg _ (by omega)) (Int.emod_lt_of_pos _ (by omega))
  · go_enter Try.func5, Try.ntmps5
    go_wp2
    go_ret
    exact at_mk _ (Int.emod_nonneg _ (by omega)) (Int.emod_lt_of_pos _ (by omega))
theorem b10Long_any (w : World) (ao bo : Option Addr) (n c m d : Nat) (hn : n ≤ 1048576) (hm : m ≤ 1048576) :
    Calls Try.prog 4 #[.slice ao n c, .slice bo m d] w (fun e w' => e = .returned (.bool false) ∧ w = w') := by
  go_enter Try.func4, Try.ntmps4
  go_wp2
  all_goals go_ret
  all_goals first
    | exact ⟨rfl, rfl⟩
    | exact ⟨ret_bool (by simp; omega), rfl⟩
theorem b10Long_yes (w : World) (ao bo : Option Addr) (n c m d : Nat) (hn : 1048576 < n ∨ 1048576 < m) :
    Calls Try.prog 4 #[.slice ao n c, .slice bo m d] w (fun e w' => e = .returned (.bool true) ∧ w = w') := by
  go_enter Try.func4, Try.ntmps4
  go_wp2
  all_goals go_ret
  all_goals first
    | exact ⟨rfl, rfl⟩
    | exact ⟨ret_bool (by simp; omega), rfl⟩
end Go.Proofs.Ytianaalokclklaa
end
