/-
  CONTRACTS: slices of 32-bit numbers: copied, compared, summed.
-/
import Derived.Test.YtianaalokclklaaDoorN3
import Derived.Test.YtianaalokclklaaDoorSl
import Derived.Test.YtianaalokclklaaDoorRw
import Derived.Deep.OwnRows
set_option linter.unusedSimpArgs false
set_option linter.unusedVariables false
namespace Go.Proofs.YtianaalokclklaaDoor
open Go.RowKit Go.Fl

/-- a float stored in a cell that is there -/
theorem run_store_float {P : Program} {w : World} {a : Addr} {v : Value} (h : w.cell? a = some v) (hf : w.frozen? a = false) (k : FloatKind) (r : Nat) (m : Mode) : (store a (.float k r) m).run P w = .ok () (w.setCell a (.float k r)) := by
  rw [run_store P w a _ m rfl, h]; simp [hf]

/-- a row under way: the first 'k' of 'n' are copied -/
structure FFill (w wr : World) (n k : Nat) (xs : List Nat) : Prop where
  below : Below w.heap.size w wr
  lt : w.heap.size < wr.heap.size
  cells : ∀ j, j < n → wr.cell? ⟨w.heap.size, j, none⟩ = some (.float .f32 (if j < k then xs.getD j 0 else 0))
  thaw : ∀ j, wr.frozen? ⟨w.heap.size, j, none⟩ = false

theorem FFill.start (w : World) (n : Nat) (xs : List Nat) (e : TypeId) : FFill w (w.alloc (.cells (madeCells #[.float .f32 0] n) e)) n 0 xs := by
  refine ⟨(Below.refl _ w).alloc (Nat.le_refl _) _, by simp, fun j hj => ?_, fun j => ?_⟩
  · rw [World.cell?_alloc_at _ _ _ _ rfl]
    simp [madeCells, hj, Nat.mod_one]
  · rw [frozen?_alloc_cells]
    unfold World.frozen?
    simp

theorem FFill.next {w wr : World} {n k : Nat} {xs : List Nat} (h : FFill w wr n k xs) (hk : k < n) : FFill w (wr.setCell ⟨w.heap.size, k, none⟩ (.float .f32 (xs.getD k 0))) n (k + 1) xs := by
  refine ⟨h.below.setCell (Nat.le_refl _) _, by simpa [World.setCell] using h.lt, fun j hj => ?_, fun j => by rw [World.frozen?_setCell]; exact h.thaw j⟩
  by_cases e : k = j
  · subst e
    rw [World.cell?_setCell_same _ _ _ (h.cells k hk), if_pos (by omega)]
  · rw [World.cell?_setCell_other _ _ _ _ (by intro he; cases he; exact e rfl), h.cells j hj]
    by_cases g : j < k
    · rw [if_pos g, if_pos (by omega)]
    · rw [if_neg g, if_neg (by omega)]

theorem FFill.done {w wr : World} {n : Nat} {xs : List Nat} (h : FFill w wr n n xs) (hl : xs.length = n) (hw : ∀ i, i < n → xs.getD i 0 < 4294967296) : FRow wr (some ⟨w.heap.size, 0, none⟩) n xs :=
  ⟨hl, fun hn => ⟨w.heap.size, 0, rfl, h.lt, fun i hi => by rw [Nat.zero_add, h.cells i hi, if_pos hi]⟩, hw⟩

/-- what a call that hands back a new row has done -/
def SRet (n : Nat) (xs : List Nat) (w : World) (e : Ending) (w' : World) : Prop := ∃ ao, e = .returned (.slice ao n n) ∧ FRow w' ao n xs ∧ Bel w w'

theorem infoF32 : (Tryd.prog.info? 54).map (fun i => (i.zero, i.size, i.bytes)) = some (some (.float .f32 0), 1, 4) := by kernel_rfl

set_option maxHeartbeats 1000000 in
theorem toF32 (w : World) (ao : Option Addr) (n c : Nat) (xs : List Nat) (hA : FRow w ao n xs) (hm : n ≤ 1048576) :
    Calls Tryd.prog 17 #[.slice ao n c] w (SRet n xs w) := by
  have hmk := run_make_row' (P := Tryd.prog) 30 54 (.float .f32 0) 4 Tryd.underlying30 infoF32 rfl .i64 .i64 n (by omega) (by omega)
  have hA' := Lib.hid hA
  clear hA
  go_enter Tryd.func17, Tryd.ntmps17
  go_wp2
  go_loopw [4] (fun i wr => ∃ k : Nat, k ≤ n ∧ i = .int .i64 k ∧ FFill w wr n k xs) (fun i _ => n - (intOf i).toNat)
  case atStart => exact ⟨0, Nat.zero_le _, rfl, FFill.start w n xs _⟩
  case round =>
    obtain ⟨k, hk, rfl, hF⟩ := hrel
    have hF' := Lib.hid hF
    clear hF
    by_cases hlt : k < n
    · obtain ⟨b, off, rfl, hb, hcell⟩ := hA'.out.at0 (by omega)
      have h1 : wr.cell? ⟨b, off + k, none⟩ = some (.float .f32 (xs.getD k 0)) := by
        rw [hF'.out.below.cell (p := ⟨b, off + k, none⟩) hb]; exact hcell k hlt
      clear hcell
      have h2 := hF'.out.cells k hlt
      have h3 := run_store_float (P := Tryd.prog) h2 (hF'.out.thaw k)
      clear h2
      go_wp2
      refine ⟨⟨k + 1, by omega, by simp, hF'.out.next hlt⟩, ?_⟩
      show n - (((k : Nat) : Int) + 1).toNat < n - ((k : Nat) : Int).toNat
      omega
    · go_wp2
      obtain rfl : k = n := by omega
      all_goals go_ret
      exact ⟨_, rfl, hF'.out.done hA'.out.len hA'.out.wf, hF'.out.below⟩

def eqAll (xs ys : List Nat) : Prop := ∀ j : Nat, cn .f32 (xs.getD j 0) = cn .f32 (ys.getD j 0)

set_option maxHeartbeats 1000000 in
/-- two rows that are the same, number for number -/
theorem eqF32 (w : World) (ao bo : Option Addr) (n c d : Nat) (xs ys : List Nat) (hA : FRow w ao n xs) (hB : FRow w bo n ys) (hm : n ≤ 1048576) (he : eqAll xs ys) :
    Calls Tryd.prog 19 #[.slice ao n c, .slice bo n d] w (VRet (.bool true) w) := by
  have hA' := Lib.hid hA
  have hB' := Lib.hid hB
  have he' := Lib.hid he
  clear hA hB he
  go_enter Tryd.func19, Tryd.ntmps19
  go_wp2
  go_loopw [5] (fun i wr => ∃ k : Nat, k ≤ n ∧ i = .int .i64 k ∧ ∃ q, wr = w.drewN q) (fun i _ => n - (intOf i).toNat)
  case atStart => exact ⟨0, Nat.zero_le _, rfl, 0, rfl⟩
  case round =>
    obtain ⟨k, hk, rfl, q, rfl⟩ := hrel
    by_cases hlt : k < n
    · obtain ⟨b, off, rfl, _, hcell⟩ := hA'.out.at0 (by omega)
      obtain ⟨b', off', rfl, _, hcell'⟩ := hB'.out.at0 (by omega)
      have h1 := hcell k hlt
      have h2 := hcell' k hlt
      clear hcell hcell'
      have hx := hA'.out.is hlt
      have hy := hB'.out.is hlt
      rw [← he'.out k] at hy
      go_wp2_with fail
      (refine Rg.wp_region_R (by kernel_rfl) (by kernel_rfl) ?_; (try simp only [List.map_cons, List.map_nil]))
      repeat (first | (first | ((with_reducible refine Rg.wpR_move (S := ?_) ?_ ?_ ?_); (first | exact Rg.yes_none | exact Rg.yes_some rfl rfl); rotate_left 1; (simp only [Rg.slotS, List.getD_cons_succ, List.getD_cons_zero]; rfl); (try simp only [Rg.upd, List.set_cons_succ, List.set_cons_zero])) | ((with_reducible refine Rg.wpR_assign (S := ?_) ?_ ?_ ?_); (first | exact Rg.yes_none | exact Rg.yes_some rfl rfl); rotate_left 1; (simp only [Rg.slotS, List.getD_cons_succ, List.getD_cons_zero]; rfl); (try simp only [Rg.upd, List.set_cons_succ, List.set_cons_zero])) | ((with_reducible refine Rg.wpR_skip (d := ?_) (c := ?_) ?_ ?_ ?_ ?_); rotate_left 2; rfl; rfl; rfl; (try simp only [Rg.upd, List.set_cons_succ, List.set_cons_zero])) | ((with_reducible refine Rg.wpR_pick (c := ?_) (S := ?_) ?_ ?_ ?_ ?_); rotate_left 1; (first | exact Rg.yes_none | exact Rg.yes_some rfl rfl); (simp only [Rg.slotS, List.getD_cons_succ, List.getD_cons_zero]; rfl); rotate_left 1; (simp only [Rg.slotS, List.getD_cons_succ, List.getD_cons_zero]; rfl); (try simp only [Rg.upd, List.set_cons_succ, List.set_cons_zero])) | ((with_reducible refine Rg.wpR_widen Tryd.underlying54 Tryd.underlying57 (X := ?_) (S := ?_) ?_ ?_ ?_ ?_); rotate_left 2; (first | exact Rg.yes_none | exact Rg.yes_some rfl rfl); (simp only [Rg.slotS, List.getD_cons_succ, List.getD_cons_zero]; rfl); (first | exact Rg.subF_is _ _ | (refine Rg.subF_eq ?_; (first | assumption | ((refine Is.lit ?_); decide +kernel) | (refine Is.ofInt _ _)))); (try simp only [Rg.upd, List.set_cons_succ, List.set_cons_zero])) | ((with_reducible refine Rg.wpR_fadd (k := ?_) (X := ?_) (Y := ?_) (S := ?_) (T := ?_) ?_ ?_ ?_ ?_ ?_ ?_); rotate_left 5; (first | exact Rg.yes_none | exact Rg.yes_some rfl rfl); (simp only [Rg.slotS, List.getD_cons_succ, List.getD_cons_zero]; rfl); (simp only [Rg.slotS, List.getD_cons_succ, List.getD_cons_zero]; rfl); (first | exact Rg.subF_is _ _ | (refine Rg.subF_eq ?_; (first | assumption | ((refine Is.lit ?_); decide +kernel) | (refine Is.ofInt _ _)))); (first | exact Rg.subF_is _ _ | (refine Rg.subF_eq ?_; (first | assumption | ((refine Is.lit ?_); decide +kernel) | (refine Is.ofInt _ _)))); (try simp only [Rg.upd, List.set_cons_succ, List.set_cons_zero])) | ((with_reducible refine Rg.wpR_fsub (k := ?_) (X := ?_) (Y := ?_) (S := ?_) (T := ?_) ?_ ?_ ?_ ?_ ?_ ?_); rotate_left 5; (first | exact Rg.yes_none | exact Rg.yes_some rfl rfl); (simp only [Rg.slotS, List.getD_cons_succ, List.getD_cons_zero]; rfl); (simp only [Rg.slotS, List.getD_cons_succ, List.getD_cons_zero]; rfl); (first | exact Rg.subF_is _ _ | (refine Rg.subF_eq ?_; (first | assumption | ((refine Is.lit ?_); decide +kernel) | (refine Is.ofInt _ _)))); (first | exact Rg.subF_is _ _ | (refine Rg.subF_eq ?_; (first | assumption | ((refine Is.lit ?_); decide +kernel) | (refine Is.ofInt _ _)))); (try simp only [Rg.upd, List.set_cons_succ, List.set_cons_zero])) | ((with_reducible refine Rg.wpR_fmul (k := ?_) (X := ?_) (Y := ?_) (S := ?_) (T := ?_) ?_ ?_ ?_ ?_ ?_ ?_); rotate_left 5; (first | exact Rg.yes_none | exact Rg.yes_some rfl rfl); (simp only [Rg.slotS, List.getD_cons_succ, List.getD_cons_zero]; rfl); (simp only [Rg.slotS, List.getD_cons_succ, List.getD_cons_zero]; rfl); (first | exact Rg.subF_is _ _ | (refine Rg.subF_eq ?_; (first | assumption | ((refine Is.lit ?_); decide +kernel) | (refine Is.ofInt _ _)))); (first | exact Rg.subF_is _ _ | (refine Rg.subF_eq ?_; (first | assumption | ((refine Is.lit ?_); decide +kernel) | (refine Is.ofInt _ _)))); (try simp only [Rg.upd, List.set_cons_succ, List.set_cons_zero])) | ((with_reducible refine Rg.wpR_fquo (k := ?_) (X := ?_) (Y := ?_) (S := ?_) (T := ?_) ?_ ?_ ?_ ?_ ?_ ?_); rotate_left 5; (first | exact Rg.yes_none | exact Rg.yes_some rfl rfl); (simp only [Rg.slotS, List.getD_cons_succ, List.getD_cons_zero]; rfl); (simp only [Rg.slotS, List.getD_cons_succ, List.getD_cons_zero]; rfl); (first | exact Rg.subF_is _ _ | (refine Rg.subF_eq ?_; (first | assumption | ((refine Is.lit ?_); decide +kernel) | (refine Is.ofInt _ _)))); (first | exact Rg.subF_is _ _ | (refine Rg.subF_eq ?_; (first | assumption | ((refine Is.lit ?_); decide +kernel) | (refine Is.ofInt _ _)))); (try simp only [Rg.upd, List.set_cons_succ, List.set_cons_zero])) | ((with_reducible refine Rg.wpR_feq (k := ?_) (X := ?_) (Y := ?_) (S := ?_) (T := ?_) ?_ ?_ ?_ ?_ ?_ ?_); rotate_left 5; (first | exact Rg.yes_none | exact Rg.yes_some rfl rfl); (simp only [Rg.slotS, List.getD_cons_succ, List.getD_cons_zero]; rfl); (simp only [Rg.slotS, List.getD_cons_succ, List.getD_cons_zero]; rfl); (first | exact Rg.subF_is _ _ | (refine Rg.subF_eq ?_; (first | assumption | ((refine Is.lit ?_); decide +kernel) | (refine Is.ofInt _ _)))); (first | exact Rg.subF_is _ _ | (refine Rg.subF_eq ?_; (first | assumption | ((refine Is.lit ?_); decide +kernel) | (refine Is.ofInt _ _)))); (try simp only [Rg.upd, List.set_cons_succ, List.set_cons_zero])) | ((with_reducible refine Rg.wpR_fne (k := ?_) (X := ?_) (Y := ?_) (S := ?_) (T := ?_) ?_ ?_ ?_ ?_ ?_ ?_); rotate_left 5; (first | exact Rg.yes_none | exact Rg.yes_some rfl rfl); (simp only [Rg.slotS, List.getD_cons_succ, List.getD_cons_zero]; rfl); (simp only [Rg.slotS, List.getD_cons_succ, List.getD_cons_zero]; rfl); (first | exact Rg.subF_is _ _ | (refine Rg.subF_eq ?_; (first | assumption | ((refine Is.lit ?_); decide +kernel) | (refine Is.ofInt _ _)))); (first | exact Rg.subF_is _ _ | (refine Rg.subF_eq ?_; (first | assumption | ((refine Is.lit ?_); decide +kernel) | (refine Is.ofInt _ _)))); (try simp only [Rg.upd, List.set_cons_succ, List.set_cons_zero])) | ((with_reducible refine Rg.wpR_flt (k := ?_) (X := ?_) (Y := ?_) (S := ?_) (T := ?_) ?_ ?_ ?_ ?_ ?_ ?_); rotate_left 5; (first | exact Rg.yes_none | exact Rg.yes_some rfl rfl); (simp only [Rg.slotS, List.getD_cons_succ, List.getD_cons_zero]; rfl); (simp only [Rg.slotS, List.getD_cons_succ, List.getD_cons_zero]; rfl); (first | exact Rg.subF_is _ _ | (refine Rg.subF_eq ?_; (first | assumption | ((refine Is.lit ?_); decide +kernel) | (refine Is.ofInt _ _)))); (first | exact Rg.subF_is _ _ | (refine Rg.subF_eq ?_; (first | assumption | ((refine Is.lit ?_); decide +kernel) | (refine Is.ofInt _ _)))); (try simp only [Rg.upd, List.set_cons_succ, List.set_cons_zero])) | ((with_reducible refine Rg.wpR_fgt (k := ?_) (X := ?_) (Y := ?_) (S := ?_) (T := ?_) ?_ ?_ ?_ ?_ ?_ ?_); rotate_left 5; (first | exact Rg.yes_none | exact Rg.yes_some rfl rfl); (simp only [Rg.slotS, List.getD_cons_succ, List.getD_cons_zero]; rfl); (simp only [Rg.slotS, List.getD_cons_succ, List.getD_cons_zero]; rfl); (first | exact Rg.subF_is _ _ | (refine Rg.subF_eq ?_; (first | assumption | ((refine Is.lit ?_); decide +kernel) | (refine Is.ofInt _ _)))); (first | exact Rg.subF_is _ _ | (refine Rg.subF_eq ?_; (first | assumption | ((refine Is.lit ?_); decide +kernel) | (refine Is.ofInt _ _)))); (try simp only [Rg.upd, List.set_cons_succ, List.set_cons_zero])) | ((with_reducible refine Rg.wpR_fge (k := ?_) (X := ?_) (Y := ?_) (S := ?_) (T := ?_) ?_ ?_ ?_ ?_ ?_ ?_); rotate_left 5; (first | exact Rg.yes_none | exact Rg.yes_some rfl rfl); (simp only [Rg.slotS, List.getD_cons_succ, List.getD_cons_zero]; rfl); (simp only [Rg.slotS, List.getD_cons_succ, List.getD_cons_zero]; rfl); (first | exact Rg.subF_is _ _ | (refine Rg.subF_eq ?_; (first | assumption | ((refine Is.lit ?_); decide +kernel) | (refine Is.ofInt _ _)))); (first | exact Rg.subF_is _ _ | (refine Rg.subF_eq ?_; (first | assumption | ((refine Is.lit ?_); decide +kernel) | (refine Is.ofInt _ _)))); (try simp only [Rg.upd, List.set_cons_succ, List.set_cons_zero])) | ((with_reducible refine Rg.wpR_indexAddr (v := ?_) (v' := ?_) (u := ?_) ?_ ?_ ?_ ?_ ?_); rotate_left 3; (first | exact Rg.yes_none | exact Rg.yes_some rfl rfl); (simp only [Rg.slotS, List.getD_cons_succ, List.getD_cons_zero]; rfl); (simp only [Rg.slotS, List.getD_cons_succ, List.getD_cons_zero]; rfl); (intro ρ nn h1 h2; go_simp; rfl); (try simp only [Rg.upd, List.set_cons_succ, List.set_cons_zero])) | ((with_reducible refine Rg.wpR_binOp (v := ?_) (v' := ?_) (u := ?_) ?_ ?_ ?_ ?_ ?_); rotate_left 3; (first | exact Rg.yes_none | exact Rg.yes_some rfl rfl); (simp only [Rg.slotS, List.getD_cons_succ, List.getD_cons_zero]; rfl); (simp only [Rg.slotS, List.getD_cons_succ, List.getD_cons_zero]; rfl); (intro ρ nn h1 h2; go_simp; rfl); (try simp only [Rg.upd, List.set_cons_succ, List.set_cons_zero])) | ((with_reducible refine Rg.wpR_load (v := ?_) (u := ?_) ?_ ?_ ?_ ?_); rotate_left 2; (first | exact Rg.yes_none | exact Rg.yes_some rfl rfl); (simp only [Rg.slotS, List.getD_cons_succ, List.getD_cons_zero]; rfl); (intro ρ nn h1; go_simp; rfl); (try simp only [Rg.upd, List.set_cons_succ, List.set_cons_zero])) | ((with_reducible refine Rg.wpR_unOp (v := ?_) (u := ?_) ?_ ?_ ?_ ?_); rotate_left 2; (first | exact Rg.yes_none | exact Rg.yes_some rfl rfl); (simp only [Rg.slotS, List.getD_cons_succ, List.getD_cons_zero]; rfl); (intro ρ nn h1; go_simp; rfl); (try simp only [Rg.upd, List.set_cons_succ, List.set_cons_zero])) | ((with_reducible refine Rg.wpR_convert (v := ?_) (u := ?_) ?_ ?_ ?_ ?_); rotate_left 2; (first | exact Rg.yes_none | exact Rg.yes_some rfl rfl); (simp only [Rg.slotS, List.getD_cons_succ, List.getD_cons_zero]; rfl); (intro ρ nn h1; go_simp; rfl); (try simp only [Rg.upd, List.set_cons_succ, List.set_cons_zero])) | ((with_reducible refine Rg.wpR_field (v := ?_) (u := ?_) ?_ ?_ ?_ ?_); rotate_left 2; (first | exact Rg.yes_none | exact Rg.yes_some rfl rfl); (simp only [Rg.slotS, List.getD_cons_succ, List.getD_cons_zero]; rfl); (intro ρ nn h1; go_simp; rfl); (try simp only [Rg.upd, List.set_cons_succ, List.set_cons_zero])) | ((with_reducible refine Rg.wpR_fieldAddr (v := ?_) (u := ?_) ?_ ?_ ?_ ?_); rotate_left 2; (first | exact Rg.yes_none | exact Rg.yes_some rfl rfl); (simp only [Rg.slotS, List.getD_cons_succ, List.getD_cons_zero]; rfl); (intro ρ nn h1; go_simp; rfl); (try simp only [Rg.upd, List.set_cons_succ, List.set_cons_zero])) | ((with_reducible refine Rg.wpR_nilCheck (v := ?_) (u := ?_) ?_ ?_ ?_ ?_); rotate_left 2; (first | exact Rg.yes_none | exact Rg.yes_some rfl rfl); (simp only [Rg.slotS, List.getD_cons_succ, List.getD_cons_zero]; rfl); (intro ρ nn h1; go_simp; rfl); (try simp only [Rg.upd, List.set_cons_succ, List.set_cons_zero])) | ((with_reducible refine Rg.wpR_builtin1 (v := ?_) (u := ?_) ?_ ?_ ?_ ?_); rotate_left 2; (first | exact Rg.yes_none | exact Rg.yes_some rfl rfl); (simp only [Rg.slotS, List.getD_cons_succ, List.getD_cons_zero]; rfl); (intro ρ nn h1; go_simp; rfl); (try simp only [Rg.upd, List.set_cons_succ, List.set_cons_zero]))))
      (refine Rg.wpR_call2 (S := ?_) (T := ?_) (V := Rg.Is1 (.bool true)) (Rg.enters Tryd.func44 (by kernel_rfl) (by kernel_rfl)) ?_ ?_ ?_ ?_ ?_; rotate_left 2; (first | exact Rg.yes_none | exact Rg.yes_some rfl rfl); (simp only [Rg.slotS, List.getD_cons_succ, List.getD_cons_zero]; rfl); (simp only [Rg.slotS, List.getD_cons_succ, List.getD_cons_zero]; rfl); rotate_left 1; (try simp only [Rg.upd, List.set_cons_succ, List.set_cons_zero]))
      rotate_left 1
      · rintro u v nn ⟨r, rfl, hr⟩ ⟨r', rfl, hr'⟩
        exact Rg.of_vret (sameFloat_any _ _ _ _ hr hr' _) (by simp [Rg.Is1])
      repeat (first | (first | ((with_reducible refine Rg.wpR_move (S := ?_) ?_ ?_ ?_); (first | exact Rg.yes_none | exact Rg.yes_some rfl rfl); rotate_left 1; (simp only [Rg.slotS, List.getD_cons_succ, List.getD_cons_zero]; rfl); (try simp only [Rg.upd, List.set_cons_succ, List.set_cons_zero])) | ((with_reducible refine Rg.wpR_assign (S := ?_) ?_ ?_ ?_); (first | exact Rg.yes_none | exact Rg.yes_some rfl rfl); rotate_left 1; (simp only [Rg.slotS, List.getD_cons_succ, List.getD_cons_zero]; rfl); (try simp only [Rg.upd, List.set_cons_succ, List.set_cons_zero])) | ((with_reducible refine Rg.wpR_skip (d := ?_) (c := ?_) ?_ ?_ ?_ ?_); rotate_left 2; rfl; rfl; rfl; (try simp only [Rg.upd, List.set_cons_succ, List.set_cons_zero])) | ((with_reducible refine Rg.wpR_pick (c := ?_) (S := ?_) ?_ ?_ ?_ ?_); rotate_left 1; (first | exact Rg.yes_none | exact Rg.yes_some rfl rfl); (simp only [Rg.slotS, List.getD_cons_succ, List.getD_cons_zero]; rfl); rotate_left 1; (simp only [Rg.slotS, List.getD_cons_succ, List.getD_cons_zero]; rfl); (try simp only [Rg.upd, List.set_cons_succ, List.set_cons_zero])) | ((with_reducible refine Rg.wpR_widen Tryd.underlying54 Tryd.underlying57 (X := ?_) (S := ?_) ?_ ?_ ?_ ?_); rotate_left 2; (first | exact Rg.yes_none | exact Rg.yes_some rfl rfl); (simp only [Rg.slotS, List.getD_cons_succ, List.getD_cons_zero]; rfl); (first | exact Rg.subF_is _ _ | (refine Rg.subF_eq ?_; (first | assumption | ((refine Is.lit ?_); decide +kernel) | (refine Is.ofInt _ _)))); (try simp only [Rg.upd, List.set_cons_succ, List.set_cons_zero])) | ((with_reducible refine Rg.wpR_fadd (k := ?_) (X := ?_) (Y := ?_) (S := ?_) (T := ?_) ?_ ?_ ?_ ?_ ?_ ?_); rotate_left 5; (first | exact Rg.yes_none | exact Rg.yes_some rfl rfl); (simp only [Rg.slotS, List.getD_cons_succ, List.getD_cons_zero]; rfl); (simp only [Rg.slotS, List.getD_cons_succ, List.getD_cons_zero]; rfl); (first | exact Rg.subF_is _ _ | (refine Rg.subF_eq ?_; (first | assumption | ((refine Is.lit ?_); decide +kernel) | (refine Is.ofInt _ _)))); (first | exact Rg.subF_is _ _ | (refine Rg.subF_eq ?_; (first | assumption | ((refine Is.lit ?_); decide +kernel) | (refine Is.ofInt _ _)))); (try simp only [Rg.upd, List.set_cons_succ, List.set_cons_zero])) | ((with_reducible refine Rg.wpR_fsub (k := ?_) (X := ?_) (Y := ?_) (S := ?_) (T := ?_) ?_ ?_ ?_ ?_ ?_ ?_); rotate_left 5; (first | exact Rg.yes_none | exact Rg.yes_some rfl rfl); (simp only [Rg.slotS, List.getD_cons_succ, List.getD_cons_zero]; rfl); (simp only [Rg.slotS, List.getD_cons_succ, List.getD_cons_zero]; rfl); (first | exact Rg.subF_is _ _ | (refine Rg.subF_eq ?_; (first | assumption | ((refine Is.lit ?_); decide +kernel) | (refine Is.ofInt _ _)))); (first | exact Rg.subF_is _ _ | (refine Rg.subF_eq ?_; (first | assumption | ((refine Is.lit ?_); decide +kernel) | (refine Is.ofInt _ _)))); (try simp only [Rg.upd, List.set_cons_succ, List.set_cons_zero])) | ((with_reducible refine Rg.wpR_fmul (k := ?_) (X := ?_) (Y := ?_) (S := ?_) (T := ?_) ?_ ?_ ?_ ?_ ?_ ?_); rotate_left 5; (first | exact Rg.yes_none | exact Rg.yes_some rfl rfl); (simp only [Rg.slotS, List.getD_cons_succ, List.getD_cons_zero]; rfl); (simp only [Rg.slotS, List.getD_cons_succ, List.getD_cons_zero]; rfl); (first | exact Rg.subF_is _ _ | (refine Rg.subF_eq ?_; (first | assumption | ((refine Is.lit ?_); decide +kernel) | (refine Is.ofInt _ _)))); (first | exact Rg.subF_is _ _ | (refine Rg.subF_eq ?_; (first | assumption | ((refine Is.lit ?_); decide +kernel) | (refine Is.ofInt _ _)))); (try simp only [Rg.upd, List.set_cons_succ, List.set_cons_zero])) | ((with_reducible refine Rg.wpR_fquo (k := ?_) (X := ?_) (Y := ?_) (S := ?_) (T := ?_) ?_ ?_ ?_ ?_ ?_ ?_); rotate_left 5; (first | exact Rg.yes_none | exact Rg.yes_some rfl rfl); (simp only [Rg.slotS, List.getD_cons_succ, List.getD_cons_zero]; rfl); (simp only [Rg.slotS, List.getD_cons_succ, List.getD_cons_zero]; rfl); (first | exact Rg.subF_is _ _ | (refine Rg.subF_eq ?_; (first | assumption | ((refine Is.lit ?_); decide +kernel) | (refine Is.ofInt _ _)))); (first | exact Rg.subF_is _ _ | (refine Rg.subF_eq ?_; (first | assumption | ((refine Is.lit ?_); decide +kernel) | (refine Is.ofInt _ _)))); (try simp only [Rg.upd, List.set_cons_succ, List.set_cons_zero])) | ((with_reducible refine Rg.wpR_feq (k := ?_) (X := ?_) (Y := ?_) (S := ?_) (T := ?_) ?_ ?_ ?_ ?_ ?_ ?_); rotate_left 5; (first | exact Rg.yes_none | exact Rg.yes_some rfl rfl); (simp only [Rg.slotS, List.getD_cons_succ, List.getD_cons_zero]; rfl); (simp only [Rg.slotS, List.getD_cons_succ, List.getD_cons_zero]; rfl); (first | exact Rg.subF_is _ _ | (refine Rg.subF_eq ?_; (first | assumption | ((refine Is.lit ?_); decide +kernel) | (refine Is.ofInt _ _)))); (first | exact Rg.subF_is _ _ | (refine Rg.subF_eq ?_; (first | assumption | ((refine Is.lit ?_); decide +kernel) | (refine Is.ofInt _ _)))); (try simp only [Rg.upd, List.set_cons_succ, List.set_cons_zero])) | ((with_reducible refine Rg.wpR_fne (k := ?_) (X := ?_) (Y := ?_) (S := ?_) (T := ?_) ?_ ?_ ?_ ?_ ?_ ?_); rotate_left 5; (first | exact Rg.yes_none | exact Rg.yes_some rfl rfl); (simp only [Rg.slotS, List.getD_cons_succ, List.getD_cons_zero]; rfl); (simp only [Rg.slotS, List.getD_cons_succ, List.getD_cons_zero]; rfl); (first | exact Rg.subF_is _ _ | (refine Rg.subF_eq ?_; (first | assumption | ((refine Is.lit ?_); decide +kernel) | (refine Is.ofInt _ _)))); (first | exact Rg.subF_is _ _ | (refine Rg.subF_eq ?_; (first | assumption | ((refine Is.lit ?_); decide +kernel) | (refine Is.ofInt _ _)))); (try simp only [Rg.upd, List.set_cons_succ, List.set_cons_zero])) | ((with_reducible refine Rg.wpR_flt (k := ?_) (X := ?_) (Y := ?_) (S := ?_) (T := ?_) ?_ ?_ ?_ ?_ ?_ ?_); rotate_left 5; (first | exact Rg.yes_none | exact Rg.yes_some rfl rfl); (simp only [Rg.slotS, List.getD_cons_succ, List.getD_cons_zero]; rfl); (simp only [Rg.slotS, List.getD_cons_succ, List.getD_cons_zero]; rfl); (first | exact Rg.subF_is _ _ | (refine Rg.subF_eq ?_; (first | assumption | ((refine Is.lit ?_); decide +kernel) | (refine Is.ofInt _ _)))); (first | exact Rg.subF_is _ _ | (refine Rg.subF_eq ?_; (first | assumption | ((refine Is.lit ?_); decide +kernel) | (refine Is.ofInt _ _)))); (try simp only [Rg.upd, List.set_cons_succ, List.set_cons_zero])) | ((with_reducible refine Rg.wpR_fgt (k := ?_) (X := ?_) (Y := ?_) (S := ?_) (T := ?_) ?_ ?_ ?_ ?_ ?_ ?_); rotate_left 5; (first | exact Rg.yes_none | exact Rg.yes_some rfl rfl); (simp only [Rg.slotS, List.getD_cons_succ, List.getD_cons_zero]; rfl); (simp only [Rg.slotS, List.getD_cons_succ, List.getD_cons_zero]; rfl); (first | exact Rg.subF_is _ _ | (refine Rg.subF_eq ?_; (first | assumption | ((refine Is.lit ?_); decide +kernel) | (refine Is.ofInt _ _)))); (first | exact Rg.subF_is _ _ | (refine Rg.subF_eq ?_; (first | assumption | ((refine Is.lit ?_); decide +kernel) | (refine Is.ofInt _ _)))); (try simp only [Rg.upd, List.set_cons_succ, List.set_cons_zero])) | ((with_reducible refine Rg.wpR_fge (k := ?_) (X := ?_) (Y := ?_) (S := ?_) (T := ?_) ?_ ?_ ?_ ?_ ?_ ?_); rotate_left 5; (first | exact Rg.yes_none | exact Rg.yes_some rfl rfl); (simp only [Rg.slotS, List.getD_cons_succ, List.getD_cons_zero]; rfl); (simp only [Rg.slotS, List.getD_cons_succ, List.getD_cons_zero]; rfl); (first | exact Rg.subF_is _ _ | (refine Rg.subF_eq ?_; (first | assumption | ((refine Is.lit ?_); decide +kernel) | (refine Is.ofInt _ _)))); (first | exact Rg.subF_is _ _ | (refine Rg.subF_eq ?_; (first | assumption | ((refine Is.lit ?_); decide +kernel) | (refine Is.ofInt _ _)))); (try simp only [Rg.upd, List.set_cons_succ, List.set_cons_zero])) | ((with_reducible refine Rg.wpR_indexAddr (v := ?_) (v' := ?_) (u := ?_) ?_ ?_ ?_ ?_ ?_); rotate_left 3; (first | exact Rg.yes_none | exact Rg.yes_some rfl rfl); (simp only [Rg.slotS, List.getD_cons_succ, List.getD_cons_zero]; rfl); (simp only [Rg.slotS, List.getD_cons_succ, List.getD_cons_zero]; rfl); (intro ρ nn h1 h2; go_simp; rfl); (try simp only [Rg.upd, List.set_cons_succ, List.set_cons_zero])) | ((with_reducible refine Rg.wpR_binOp (v := ?_) (v' := ?_) (u := ?_) ?_ ?_ ?_ ?_ ?_); rotate_left 3; (first | exact Rg.yes_none | exact Rg.yes_some rfl rfl); (simp only [Rg.slotS, List.getD_cons_succ, List.getD_cons_zero]; rfl); (simp only [Rg.slotS, List.getD_cons_succ, List.getD_cons_zero]; rfl); (intro ρ nn h1 h2; go_simp; rfl); (try simp only [Rg.upd, List.set_cons_succ, List.set_cons_zero])) | ((with_reducible refine Rg.wpR_load (v := ?_) (u := ?_) ?_ ?_ ?_ ?_); rotate_left 2; (first | exact Rg.yes_none | exact Rg.yes_some rfl rfl); (simp only [Rg.slotS, List.getD_cons_succ, List.getD_cons_zero]; rfl); (intro ρ nn h1; go_simp; rfl); (try simp only [Rg.upd, List.set_cons_succ, List.set_cons_zero])) | ((with_reducible refine Rg.wpR_unOp (v := ?_) (u := ?_) ?_ ?_ ?_ ?_); rotate_left 2; (first | exact Rg.yes_none | exact Rg.yes_some rfl rfl); (simp only [Rg.slotS, List.getD_cons_succ, List.getD_cons_zero]; rfl); (intro ρ nn h1; go_simp; rfl); (try simp only [Rg.upd, List.set_cons_succ, List.set_cons_zero])) | ((with_reducible refine Rg.wpR_convert (v := ?_) (u := ?_) ?_ ?_ ?_ ?_); rotate_left 2; (first | exact Rg.yes_none | exact Rg.yes_some rfl rfl); (simp only [Rg.slotS, List.getD_cons_succ, List.getD_cons_zero]; rfl); (intro ρ nn h1; go_simp; rfl); (try simp only [Rg.upd, List.set_cons_succ, List.set_cons_zero])) | ((with_reducible refine Rg.wpR_field (v := ?_) (u := ?_) ?_ ?_ ?_ ?_); rotate_left 2; (first | exact Rg.yes_none | exact Rg.yes_some rfl rfl); (simp only [Rg.slotS, List.getD_cons_succ, List.getD_cons_zero]; rfl); (intro ρ nn h1; go_simp; rfl); (try simp only [Rg.upd, List.set_cons_succ, List.set_cons_zero])) | ((with_reducible refine Rg.wpR_fieldAddr (v := ?_) (u := ?_) ?_ ?_ ?_ ?_); rotate_left 2; (first | exact Rg.yes_none | exact Rg.yes_some rfl rfl); (simp only [Rg.slotS, List.getD_cons_succ, List.getD_cons_zero]; rfl); (intro ρ nn h1; go_simp; rfl); (try simp only [Rg.upd, List.set_cons_succ, List.set_cons_zero])) | ((with_reducible refine Rg.wpR_nilCheck (v := ?_) (u := ?_) ?_ ?_ ?_ ?_); rotate_left 2; (first | exact Rg.yes_none | exact Rg.yes_some rfl rfl); (simp only [Rg.slotS, List.getD_cons_succ, List.getD_cons_zero]; rfl); (intro ρ nn h1; go_simp; rfl); (try simp only [Rg.upd, List.set_cons_succ, List.set_cons_zero])) | ((with_reducible refine Rg.wpR_builtin1 (v := ?_) (u := ?_) ?_ ?_ ?_ ?_); rotate_left 2; (first | exact Rg.yes_none | exact Rg.yes_some rfl rfl); (simp only [Rg.slotS, List.getD_cons_succ, List.getD_cons_zero]; rfl); (intro ρ nn h1; go_simp; rfl); (try simp only [Rg.upd, List.set_cons_succ, List.set_cons_zero]))))
      (refine Rg.wpR_end ?_; intro nq; (repeat (first | refine Rg.all2_is1 ?_ | (refine Rg.all2_isF ?_; intro r hr))); refine Rg.all2_nil ?_)
      go_wp2
      refine ⟨⟨k + 1, by omega, by simp, _, rfl⟩, ?_⟩
      show n - (((k : Nat) : Int) + 1).toNat < n - ((k : Nat) : Int).toNat
      omega
    · go_wp2
      all_goals go_ret
      exact ⟨rfl, q, rfl⟩
/-- the sum of the first 'k', from left to right -/
def sumF (xs : List Nat) : Nat → Nat
  | 0 => 0
  | k + 1 => fop .add .f32 (sumF xs k) (cn .f32 (xs.getD k 0))
def dotF (xs ys : List Nat) : Nat → Nat
  | 0 => 0
  | k + 1 => fop .add .f32 (dotF xs ys k) (fop .mul .f32 (cn .f32 (xs.getD k 0)) (cn .f32 (ys.getD k 0)))

/-- what a call has done that hands back a float and whether it is one -/
def SmRet (b : Bool) (X : Nat) (w : World) (e : Ending) (w' : World) : Prop := ∃ r, e = .returned (.tuple #[.float .f32 r, .bool b]) ∧ Is .f32 r X ∧ Dr w w'

theorem l01Few_any (ao : Option Addr) (n c : Nat) (w : World) : Calls Tryd.prog 41 #[.slice ao n c] w (fun e w' => e = .returned (.bool (decide (n ≤ 256))) ∧ w' = w) := by
  go_enter Tryd.func41, Tryd.ntmps41
  go_wp2
  go_ret
  exact ⟨ret_bool (by simp; omega), rfl⟩










end Go.Proofs.YtianaalokclklaaDoor
