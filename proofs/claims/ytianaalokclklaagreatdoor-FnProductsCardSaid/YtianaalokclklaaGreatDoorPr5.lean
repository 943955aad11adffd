/-
  PLAIN LAWS AND CONTRACTS, part 5: several texts laid behind one another.
-/
import Derived.Test.YtianaalokclklaaGreatDoorPr4
import Derived.Test.YtianaalokclklaaGreatDoorPr1
import Derived.Test.YtianaalokclklaaGreatDoorPr3
import Derived.Test.YtianaalokclklaaGreatDoorPr2
import GoSem.Extern.MathFloor
import Derived.Laws.ComplexArith
import Derived.Laws.FloatArith
import Derived.Lib.Hide

/-
  CONTRACTS: complex numbers drawn.
-/
section
set_option linter.unusedSimpArgs false
set_option linter.unusedVariables false
namespace Go.Proofs.YtianaalokclklaaGreatDoor
open Go.RowKit Go.Fl

def IsCx : Value → Prop := fun v => ∃ r s X Y : Nat, v = .complex .f32 r s ∧ Is .f32 r X ∧ Is .f32 s Y
theorem complex_any (w : World) (g : Nat) (X : SCx) (k : Nat) (hS : Src w g X k) (hk : k ≤ 4000) :
    Calls Tryz.prog 57 #[.pointer (some ⟨g, 0, none⟩)] w (TkRet IsCx g X (k + 24) w) := by
  go_enter Tryz.func57, Tryz.ntmps57
  go_wp2_with fail
  refine (float_any w g X k hS (by omega)).mono ?_
  rintro e w1 ⟨v, rfl, ⟨r, R, rfl, hr⟩, hS1, hX1⟩
  replace hr := Lib.hid hr
  replace hS1 := Lib.hid hS1
  replace hX1 := Lib.hid hX1
  go_wp2_with fail
  refine (float_any w1 g X (k + 12) hS1.out (by omega)).mono ?_
  rintro e w2 ⟨v, rfl, ⟨s, S, rfl, hs⟩, hS2, hX2⟩
  replace hs := Lib.hid hs
  replace hS2 := Lib.hid hS2
  replace hX2 := Lib.hid (hX1.out.trans hX2)
  go_wp2_with fail
  go_ret
  exact ⟨_, rfl, ⟨_, _, _, _, rfl, hr.out, hs.out⟩, hS2.out, hX2.out⟩
set_option maxHeartbeats 1000000 in
theorem fine_any (w : World) (g : Nat) (X : SCx) (k : Nat) (hS : Src w g X k) (hk : k ≤ 4000) :
    Calls Tryz.prog 58 #[.pointer (some ⟨g, 0, none⟩)] w (TkRet IsCx g X (k + 4) w) := by
  go_enter Tryz.func58, Tryz.ntmps58
  go_wp2_with fail
  refine (pick_any w g X k hS (by omega) 65 (by omega) (by omega)).mono ?_
  rintro e w1 ⟨v, rfl, ⟨x, rfl, hx⟩, hS1, hX1⟩
  replace hX1 := Lib.hid hX1
  replace hS1 := Lib.hid hS1
  go_wp2_with ((with_reducible refine wpList_here ?_); (first | ((with_reducible refine wpList_feq (k := ?_) (bx := ?_) (by' := ?_) (X := ?_) (Y := ?_) ?_ ?_ ?_ ?_ ?_ ?_); rotate_left 5; (first | (with_reducible exact wanted_none) | ((with_reducible refine wanted_some ?_); rfl)); (rfl); (rfl); (first | assumption | ((refine Is.lit ?_); decide +kernel) | (refine Is.ofInt _ _)); (first | assumption | ((refine Is.lit ?_); decide +kernel) | (refine Is.ofInt _ _)); (try simp only [Act.put, List.setIfInBounds_toArray, List.set_cons_succ, List.set_cons_zero, World.drewN_drewN])) | ((with_reducible refine wpList_fne (k := ?_) (bx := ?_) (by' := ?_) (X := ?_) (Y := ?_) ?_ ?_ ?_ ?_ ?_ ?_); rotate_left 5; (first | (with_reducible exact wanted_none) | ((with_reducible refine wanted_some ?_); rfl)); (rfl); (rfl); (first | assumption | ((refine Is.lit ?_); decide +kernel) | (refine Is.ofInt _ _)); (first | assumption | ((refine Is.lit ?_); decide +kernel) | (refine Is.ofInt _ _)); (try simp only [Act.put, List.setIfInBounds_toArray, List.set_cons_succ, List.set_cons_zero, World.drewN_drewN])) | ((with_reducible refine wpList_flt (k := ?_) (bx := ?_) (by' := ?_) (X := ?_) (Y := ?_) ?_ ?_ ?_ ?_ ?_ ?_); rotate_left 5; (first | (with_reducible exact wanted_none) | ((with_reducible refine wanted_some ?_); rfl)); (rfl); (rfl); (first | assumption | ((refine Is.lit ?_); decide +kernel) | (refine Is.ofInt _ _)); (first | assumption | ((refine Is.lit ?_); decide +kernel) | (refine Is.ofInt _ _)); (try simp only [Act.put, List.setIfInBounds_toArray, List.set_cons_succ, List.set_cons_zero, World.drewN_drewN])) | ((with_reducible refine wpList_fle (k := ?_) (bx := ?_) (by' := ?_) (X := ?_) (Y := ?_) ?_ ?_ ?_ ?_ ?_ ?_); rotate_left 5; (first | (with_reducible exact wanted_none) | ((with_reducible refine wanted_some ?_); rfl)); (rfl); (rfl); (first | assumption | ((refine Is.lit ?_); decide +kernel) | (refine Is.ofInt _ _)); (first | assumption | ((refine Is.lit ?_); decide +kernel) | (refine Is.ofInt _ _)); (try simp only [Act.put, List.setIfInBounds_toArray, List.set_cons_succ, List.set_cons_zero, World.drewN_drewN])) | ((with_reducible refine wpList_fgt (k := ?_) (bx := ?_) (by' := ?_) (X := ?_) (Y := ?_) ?_ ?_ ?_ ?_ ?_ ?_); rotate_left 5; (first | (with_reducible exact wanted_none) | ((with_reducible refine wanted_some ?_); rfl)); (rfl); (rfl); (first | assumption | ((refine Is.lit ?_); decide +kernel) | (refine Is.ofInt _ _)); (first | assumption | ((refine Is.lit ?_); decide +kernel) | (refine Is.ofInt _ _)); (try simp only [Act.put, List.setIfInBounds_toArray, List.set_cons_succ, List.set_cons_zero, World.drewN_drewN])) | ((with_reducible refine wpList_fge (k := ?_) (bx := ?_) (by' := ?_) (X := ?_) (Y := ?_) ?_ ?_ ?_ ?_ ?_ ?_); rotate_left 5; (first | (with_reducible exact wanted_none) | ((with_reducible refine wanted_some ?_); rfl)); (rfl); (rfl); (first | assumption | ((refine Is.lit ?_); decide +kernel) | (refine Is.ofInt _ _)); (first | assumption | ((refine Is.lit ?_); decide +kernel) | (refine Is.ofInt _ _)); (try simp only [Act.put, List.setIfInBounds_toArray, List.set_cons_succ, List.set_cons_zero, World.drewN_drewN])) | ((with_reducible refine wpList_fadd (k := ?_) (bx := ?_) (by' := ?_) (X := ?_) (Y := ?_) ?_ ?_ ?_ ?_ ?_ ?_); rotate_left 5; (first | (with_reducible exact wanted_none) | ((with_reducible refine wanted_some ?_); rfl)); (rfl); (rfl); (first | assumption | ((refine Is.lit ?_); decide +kernel) | (refine Is.ofInt _ _)); (first | assumption | ((refine Is.lit ?_); decide +kernel) | (refine Is.ofInt _ _)); (intro r nd hr); (try simp only [Act.put, List.setIfInBounds_toArray, List.set_cons_succ, List.set_cons_zero, World.drewN_drewN])) | ((with_reducible refine wpList_fsub (k := ?_) (bx := ?_) (by' := ?_) (X := ?_) (Y := ?_) ?_ ?_ ?_ ?_ ?_ ?_); rotate_left 5; (first | (with_reducible exact wanted_none) | ((with_reducible refine wanted_some ?_); rfl)); (rfl); (rfl); (first | assumption | ((refine Is.lit ?_); decide +kernel) | (refine Is.ofInt _ _)); (first | assumption | ((refine Is.lit ?_); decide +kernel) | (refine Is.ofInt _ _)); (intro r nd hr); (try simp only [Act.put, List.setIfInBounds_toArray, List.set_cons_succ, List.set_cons_zero, World.drewN_drewN])) | ((with_reducible refine wpList_fmul (k := ?_) (bx := ?_) (by' := ?_) (X := ?_) (Y := ?_) ?_ ?_ ?_ ?_ ?_ ?_); rotate_left 5; (first | (with_reducible exact wanted_none) | ((with_reducible refine wanted_some ?_); rfl)); (rfl); (rfl); (first | assumption | ((refine Is.lit ?_); decide +kernel) | (refine Is.ofInt _ _)); (first | assumption | ((refine Is.lit ?_); decide +kernel) | (refine Is.ofInt _ _)); (intro r nd hr); (try simp only [Act.put, List.setIfInBounds_toArray, List.set_cons_succ, List.set_cons_zero, World.drewN_drewN])) | ((with_reducible refine wpList_fquo (k := ?_) (bx := ?_) (by' := ?_) (X := ?_) (Y := ?_) ?_ ?_ ?_ ?_ ?_ ?_); rotate_left 5; (first | (with_reducible exact wanted_none) | ((with_reducible refine wanted_some ?_); rfl)); (rfl); (rfl); (first | assumption | ((refine Is.lit ?_); decide +kernel) | (refine Is.ofInt _ _)); (first | assumption | ((refine Is.lit ?_); decide +kernel) | (refine Is.ofInt _ _)); (intro r nd hr); (try simp only [Act.put, List.setIfInBounds_toArray, List.set_cons_succ, List.set_cons_zero, World.drewN_drewN]))))
  have hr1 := Lib.hid (show ∃ Z, Is .f32 r Z from ⟨_, by assumption⟩)
  refine (pick_any _ g X (k + 2) (hS1.out.bel ((Bel.refl _).drewN _)) (by omega) 65 (by omega) (by omega)).mono ?_
  rintro e w2 ⟨v, rfl, ⟨y, rfl, hy⟩, hS2, hX2⟩
  replace hX2 := Lib.hid ((hX1.out.trans (BelX.of ((Bel.refl _).drewN _))).trans hX2)
  replace hS2 := Lib.hid hS2
  clear hS1 hX1 hr
  obtain ⟨R1, hR1⟩ := hr1.out
  replace hR1 := Lib.hid hR1
  clear hr1
  go_wp2_with ((with_reducible refine wpList_here ?_); (first | ((with_reducible refine wpList_feq (k := ?_) (bx := ?_) (by' := ?_) (X := ?_) (Y := ?_) ?_ ?_ ?_ ?_ ?_ ?_); rotate_left 5; (first | (with_reducible exact wanted_none) | ((with_reducible refine wanted_some ?_); rfl)); (rfl); (rfl); (first | assumption | ((refine Is.lit ?_); decide +kernel) | (refine Is.ofInt _ _)); (first | assumption | ((refine Is.lit ?_); decide +kernel) | (refine Is.ofInt _ _)); (try simp only [Act.put, List.setIfInBounds_toArray, List.set_cons_succ, List.set_cons_zero, World.drewN_drewN])) | ((with_reducible refine wpList_fne (k := ?_) (bx := ?_) (by' := ?_) (X := ?_) (Y := ?_) ?_ ?_ ?_ ?_ ?_ ?_); rotate_left 5; (first | (with_reducible exact wanted_none) | ((with_reducible refine wanted_some ?_); rfl)); (rfl); (rfl); (first | assumption | ((refine Is.lit ?_); decide +kernel) | (refine Is.ofInt _ _)); (first | assumption | ((refine Is.lit ?_); decide +kernel) | (refine Is.ofInt _ _)); (try simp only [Act.put, List.setIfInBounds_toArray, List.set_cons_succ, List.set_cons_zero, World.drewN_drewN])) | ((with_reducible refine wpList_flt (k := ?_) (bx := ?_) (by' := ?_) (X := ?_) (Y := ?_) ?_ ?_ ?_ ?_ ?_ ?_); rotate_left 5; (first | (with_reducible exact wanted_none) | ((with_reducible refine wanted_some ?_); rfl)); (rfl); (rfl); (first | assumption | ((refine Is.lit ?_); decide +kernel) | (refine Is.ofInt _ _)); (first | assumption | ((refine Is.lit ?_); decide +kernel) | (refine Is.ofInt _ _)); (try simp only [Act.put, List.setIfInBounds_toArray, List.set_cons_succ, List.set_cons_zero, World.drewN_drewN])) | ((with_reducible refine wpList_fle (k := ?_) (bx := ?_) (by' := ?_) (X := ?_) (Y := ?_) ?_ ?_ ?_ ?_ ?_ ?_); rotate_left 5; (first | (with_reducible exact wanted_none) | ((with_reducible refine wanted_some ?_); rfl)); (rfl); (rfl); (first | assumption | ((refine Is.lit ?_); decide +kernel) | (refine Is.ofInt _ _)); (first | assumption | ((refine Is.lit ?_); decide +kernel) | (refine Is.ofInt _ _)); (try simp only [Act.put, List.setIfInBounds_toArray, List.set_cons_succ, List.set_cons_zero, World.drewN_drewN])) | ((with_reducible refine wpList_fgt (k := ?_) (bx := ?_) (by' := ?_) (X := ?_) (Y := ?_) ?_ ?_ ?_ ?_ ?_ ?_); rotate_left 5; (first | (with_reducible exact wanted_none) | ((with_reducible refine wanted_some ?_); rfl)); (rfl); (rfl); (first | assumption | ((refine Is.lit ?_); decide +kernel) | (refine Is.ofInt _ _)); (first | assumption | ((refine Is.lit ?_); decide +kernel) | (refine Is.ofInt _ _)); (try simp only [Act.put, List.setIfInBounds_toArray, List.set_cons_succ, List.set_cons_zero, World.drewN_drewN])) | ((with_reducible refine wpList_fge (k := ?_) (bx := ?_) (by' := ?_) (X := ?_) (Y := ?_) ?_ ?_ ?_ ?_ ?_ ?_); rotate_left 5; (first | (with_reducible exact wanted_none) | ((with_reducible refine wanted_some ?_); rfl)); (rfl); (rfl); (first | assumption | ((refine Is.lit ?_); decide +kernel) | (refine Is.ofInt _ _)); (first | assumption | ((refine Is.lit ?_); decide +kernel) | (refine Is.ofInt _ _)); (try simp only [Act.put, List.setIfInBounds_toArray, List.set_cons_succ, List.set_cons_zero, World.drewN_drewN])) | ((with_reducible refine wpList_fadd (k := ?_) (bx := ?_) (by' := ?_) (X := ?_) (Y := ?_) ?_ ?_ ?_ ?_ ?_ ?_); rotate_left 5; (first | (with_reducible exact wanted_none) | ((with_reducible refine wanted_some ?_); rfl)); (rfl); (rfl); (first | assumption | ((refine Is.lit ?_); decide +kernel) | (refine Is.ofInt _ _)); (first | assumption | ((refine Is.lit ?_); decide +kernel) | (refine Is.ofInt _ _)); (intro r nd hr); (try simp only [Act.put, List.setIfInBounds_toArray, List.set_cons_succ, List.set_cons_zero, World.drewN_drewN])) | ((with_reducible refine wpList_fsub (k := ?_) (bx := ?_) (by' := ?_) (X := ?_) (Y := ?_) ?_ ?_ ?_ ?_ ?_ ?_); rotate_left 5; (first | (with_reducible exact wanted_none) | ((with_reducible refine wanted_some ?_); rfl)); (rfl); (rfl); (first | assumption | ((refine Is.lit ?_); decide +kernel) | (refine Is.ofInt _ _)); (first | assumption | ((refine Is.lit ?_); decide +kernel) | (refine Is.ofInt _ _)); (intro r nd hr); (try simp only [Act.put, List.setIfInBounds_toArray, List.set_cons_succ, List.set_cons_zero, World.drewN_drewN])) | ((with_reducible refine wpList_fmul (k := ?_) (bx := ?_) (by' := ?_) (X := ?_) (Y := ?_) ?_ ?_ ?_ ?_ ?_ ?_); rotate_left 5; (first | (with_reducible exact wanted_none) | ((with_reducible refine wanted_some ?_); rfl)); (rfl); (rfl); (first | assumption | ((refine Is.lit ?_); decide +kernel) | (refine Is.ofInt _ _)); (first | assumption | ((refine Is.lit ?_); decide +kernel) | (refine Is.ofInt _ _)); (intro r nd hr); (try simp only [Act.put, List.setIfInBounds_toArray, List.set_cons_succ, List.set_cons_zero, World.drewN_drewN])) | ((with_reducible refine wpList_fquo (k := ?_) (bx := ?_) (by' := ?_) (X := ?_) (Y := ?_) ?_ ?_ ?_ ?_ ?_ ?_); rotate_left 5; (first | (with_reducible exact wanted_none) | ((with_reducible refine wanted_some ?_); rfl)); (rfl); (rfl); (first | assumption | ((refine Is.lit ?_); decide +kernel) | (refine Is.ofInt _ _)); (first | assumption | ((refine Is.lit ?_); decide +kernel) | (refine Is.ofInt _ _)); (intro r nd hr); (try simp only [Act.put, List.setIfInBounds_toArray, List.set_cons_succ, List.set_cons_zero, World.drewN_drewN]))))
  go_ret
  exact ⟨_, rfl, ⟨_, _, _, _, rfl, hR1.out, by assumption⟩, hS2.out.bel ((Bel.refl _).drewN _), hX2.out.trans (BelX.of ((Bel.refl _).drewN _))⟩
/-- a row of complex numbers in blocks from the world 'w' on -/
def GCw (w wr : World) (v : Value) (ps : List (Nat × Nat)) : Prop := ∃ g cap, v = .slice (some ⟨g, 0, none⟩) ps.length cap ∧ wr.ownsRow w.heap.size 24 1 v ps.length (cxs ps)
theorem GCw.belx {w wr w1 : World} {v : Value} {ps : List (Nat × Nat)} {b : Nat} (h : GCw w wr v ps) (hX : BelX (some b) wr w1) (hb : b < w.heap.size) : GCw w w1 v ps := by
  obtain ⟨g, cap, rfl, h1⟩ := h
  exact ⟨g, cap, rfl, own_belx h1 hX (by intro j hj; cases hj; exact hb)⟩
theorem GCw.start (w wr : World) (hb : w.heap.size ≤ wr.heap.size) : GCw w (wr.alloc (.cells #[] 24)) (.slice (some ⟨wr.heap.size, 0, none⟩) 0 0) [] :=
  ⟨_, _, rfl, World.ownsRow_made wr #[] 0 hb (by unfold maxLen; omega) rfl⟩
theorem GCw.next {w wr w2 : World} {v v2 : Value} {ps : List (Nat × Nat)} {x y : Nat} {o : Obj} (h : GCw w wr v ps) (hs : w.heap.size ≤ wr.heap.size) (hown : w2.ownsRow w.heap.size 24 1 v2 (ps.length + 1) (cxs ps ++ [.complex .f32 x y])) (hg : (wr.alloc o).grownBy w2 v.ownBlock) : GCw w w2 v2 (ps ++ [(x, y)]) ∧ Below w.heap.size wr w2 := by
  obtain ⟨g, cap, rfl, h1⟩ := h
  have e : cxs ps ++ [.complex .f32 x y] = cxs (ps ++ [(x, y)]) := by simp [cxs]
  have e2 : ps.length + 1 = (ps ++ [(x, y)]).length := by simp
  rw [e] at hown
  obtain ⟨g2, cap2, rfl⟩ := own_succ hown
  have hb : Below w.heap.size (wr.alloc o) w2 := (Below.refl _ _).grown hg (by simp; omega) (own_row h1)
  exact ⟨⟨g2, cap2, by rw [e2], by rw [← e2]; exact hown⟩, Below.trans ((Below.refl _ wr).alloc hs o) hb⟩
theorem GCw.done {w wr : World} {v : Value} {ps : List (Nat × Nat)} (h : GCw w wr v ps) : ∃ ao c, v = .slice ao ps.length c ∧ VORow w.heap.size wr.heap.size wr ao ps.length (cvals (fsts ps) (snds ps)) := by
  obtain ⟨g, cap, rfl, h1⟩ := h
  refine ⟨_, cap, rfl, ⟨fun hn => ⟨g, 0, rfl, (World.ownsRow.lt h1 g rfl).2, fun i hi => ?_⟩⟩, fun a ha => ?_⟩
  · have := World.ownsRow.cells h1 rfl i _ (show (cxs ps)[i]? = some (cvals (fsts ps) (snds ps) i) by simp [cxs, cvals, fsts, snds, hi, List.getD_eq_getElem?_getD])
    rw [Nat.zero_add]
    unfold Addr.add at this
    simp at this
    split at this
    · rename_i h0; rw [h0]; rw [h0] at this; exact this
    · exact this
  · cases ha
    rcases h1.2 with ⟨e, _⟩ | ⟨g2, cap2, cur, e, hb, h3, _⟩
    · cases e
    · cases e
      have hl := (Array.getElem?_eq_some_iff.1 h3).1
      exact ⟨hb, hl, hl, cells_free h3⟩
def WordsC (ps : List (Nat × Nat)) : Prop := ∀ i, i < ps.length → (fsts ps).getD i 0 < 4294967296 ∧ (snds ps).getD i 0 < 4294967296
theorem WordsC.next {ps : List (Nat × Nat)} {x y X Y : Nat} (h : WordsC ps) (hx : Is .f32 x X) (hy : Is .f32 y Y) : WordsC (ps ++ [(x, y)]) := by
  intro i hi
  have hx1 := hx.1
  have hy1 := hy.1
  rw [w32] at hx1 hy1
  have f1 : fsts (ps ++ [(x, y)]) = fsts ps ++ [x] := by simp [fsts]
  have f2 : snds (ps ++ [(x, y)]) = snds ps ++ [y] := by simp [snds]
  have e1 : (fsts ps).length = ps.length := by simp [fsts]
  have e2 : (snds ps).length = ps.length := by simp [snds]
  rw [f1, f2]
  by_cases hlt : i < ps.length
  · have := h i hlt
    rw [List.getD_eq_getElem?_getD, List.getD_eq_getElem?_getD] at this ⊢
    rw [List.getElem?_append_left (by omega), List.getElem?_append_left (by omega)]
    exact this
  · have : i = ps.length := by simp at hi; omega
    subst this
    rw [List.getD_eq_getElem?_getD, List.getD_eq_getElem?_getD, List.getElem?_append_right (by omega), List.getElem?_append_right (by omega), e1, e2, Nat.sub_self]
    exact ⟨hx1, hy1⟩
structure DcS (w wr : World) (g : Nat) (X : SCx) (k : Nat) (v : Value) (ps : List (Nat × Nat)) : Prop where
  row : GCw w wr v ps
  src : Src wr g X (k + 24 * ps.length)
  bel : BelX (some g) w wr
  ws : WordsC ps
theorem DcS.step {w wr w1 : World} {g : Nat} {X : SCx} {k j : Nat} {v : Value} {ps : List (Nat × Nat)} (h : DcS w wr g X k v ps) (hg : g < w.heap.size) (hS : Src w1 g X j) (hj : j ≤ k + 24 * (ps.length + 1)) (hX : BelX (some g) wr w1) :
    GCw w w1 v ps ∧ Src w1 g X (k + 24 * (ps.length + 1)) ∧ BelX (some g) w w1 := ⟨h.row.belx hX hg, hS.mono hj, h.bel.trans hX⟩
theorem DcS.put {w w1 w2 : World} {g : Nat} {X : SCx} {k x y Z U : Nat} {v v2 : Value} {ps : List (Nat × Nat)} {o : Obj} (h : GCw w w1 v ps ∧ Src w1 g X (k + 24 * (ps.length + 1)) ∧ BelX (some g) w w1) (hg : g < w.heap.size) (hx : Is .f32 x Z) (hy : Is .f32 y U) (hws : WordsC ps)
    (hown : w2.ownsRow w.heap.size 24 1 v2 (ps.length + 1) (cxs ps ++ [.complex .f32 x y])) (hgr : (w1.alloc o).grownBy w2 v.ownBlock) : DcS w w2 g X k v2 (ps ++ [(x, y)]) := by
  obtain ⟨h1, h2, h3⟩ := h
  obtain ⟨g1, g2⟩ := h1.next h3.size hown hgr
  refine ⟨g1, ?_, h3.below' g2, hws.next hx hy⟩
  have e : (ps ++ [(x, y)]).length = ps.length + 1 := by simp
  rw [e]
  exact h2.below hg g2
/-- what a call has done that drew a row of complex numbers -/
def TkRowC (N : Nat) (g : Nat) (X : SCx) (w : World) (e : Ending) (w' : World) : Prop := ∃ ps ao c, e = .returned (.slice ao N c) ∧ ps.length = N ∧ WordsC ps ∧ VORow w.heap.size w'.heap.size w' ao N (cvals (fsts ps) (snds ps)) ∧ BelX (some g) w w'
set_option maxRecDepth 100000 in
set_option maxHeartbeats 2000000 in
theorem complexes_any (w : World) (g : Nat) (X : SCx) (hS : Src w g X 0) (N : Nat) (hN : N ≤ 100) :
    Calls Tryz.prog 46 #[.pointer (some ⟨g, 0, none⟩), .int .i64 (N : Int)] w (TkRowC N g X w) := by
  obtain ⟨i0, hi0, hz0, hz1, hz2⟩ := info_parts infoC64
  have hg := Lib.hid (src_lt hS)
  have hS0 := Lib.hid (hS.bel ((Bel.refl w).alloc (.cells #[] 24)))
  clear hS
  go_enter Tryz.func46, Tryz.ntmps46
  go_wp2_with fail
  refine (one_any _ g X 0 hS0.out (by omega) 5 (by omega) (by omega)).mono ?_
  rintro e w1 ⟨v, rfl, ⟨b, rfl⟩, hS1, hX1⟩
  have hD := Lib.hid (show DcS w w1 g X 2 (.slice (some ⟨w.heap.size, 0, none⟩) 0 0) [] from
    ⟨(GCw.start w w (Nat.le_refl _)).belx hX1 hg.out, hS1, (BelX.of ((Bel.refl w).alloc _)).trans hX1, fun i hi => absurd hi (by simp)⟩)
  clear hS1 hX1 hS0
  go_wp2_with fail
  go_loopw [1, 5] (fun nv v wr => ∃ (j : Nat) (ps : List (Nat × Nat)), nv = .int .i64 (j : Int) ∧ ps.length + j = N ∧ Hid (DcS w wr g X 2 v ps)) (fun nv _ _ => (intOf nv).toNat)
  case atStart => exact ⟨N, [], rfl, by simp, hD⟩
  case round =>
    obtain ⟨j, ps, rfl, hj, hS⟩ := hrel
    obtain ⟨⟨g1, cap, rfl, _⟩, _, _, _⟩ := hS.out
    by_cases hlt : 0 < j
    · obtain ⟨i, rfl⟩ : ∃ i, j = i + 1 := ⟨j - 1, by omega⟩
      cases b with
      | true =>
        go_wp2_with fail
        refine (complex_any wr g X _ hS.out.src (by omega)).mono ?_
        rintro e w2 ⟨v, rfl, ⟨r, s, R, S, rfl, hr, hs⟩, hS2, hX2⟩
        have hT := Lib.hid (hS.out.step hg.out hS2 (by omega) hX2)
        replace hr := Lib.hid hr
        replace hs := Lib.hid hs
        clear hS2 hX2
        obtain ⟨⟨_, _, hvv, hown⟩, _, hbx⟩ := hT.out
        cases hvv
        have hbs := hbx.size
        clear hbx
        go_wp2_with (at_builtin; refine wpList_app1 rfl _ _ 25 rfl w.heap.size 24 i0 _ 8 Tryz.underlying25 hi0 hz0 hz1 hz2 rfl (.slice (some ⟨g1, 0, none⟩) ps.length cap) ps.length _ rfl hown rfl rfl (by omega) (by unfold maxLen; omega) hbs ?_; intro v2 w3 hown2 hgrow)
        have hN2 := Lib.hid (DcS.put hT.out hg.out hr.out hs.out hS.out.ws hown2 hgrow)
        clear hown2 hgrow hown
        go_wp2_with fail
        refine ⟨⟨i, ps ++ [(r, s)], by simp, by simp; omega, hN2⟩, ?_⟩
        show ((i : Nat) : Int).toNat < ((i + 1 : Nat) : Int).toNat
        omega
      | false =>
        go_wp2_with fail
        refine (fine_any wr g X _ hS.out.src (by omega)).mono ?_
        rintro e w2 ⟨v, rfl, ⟨r, s, R, S, rfl, hr, hs⟩, hS2, hX2⟩
        have hT := Lib.hid (hS.out.step hg.out hS2 (by omega) hX2)
        replace hr := Lib.hid hr
        replace hs := Lib.hid hs
        clear hS2 hX2
        obtain ⟨⟨_, _, hvv, hown⟩, _, hbx⟩ := hT.out
        cases hvv
        have hbs := hbx.size
        clear hbx
        go_wp2_with (at_builtin; refine wpList_app1 rfl _ _ 25 rfl w.heap.size 24 i0 _ 8 Tryz.underlying25 hi0 hz0 hz1 hz2 rfl (.slice (some ⟨g1, 0, none⟩) ps.length cap) ps.length _ rfl hown rfl rfl (by omega) (by unfold maxLen; omega) hbs ?_; intro v2 w3 hown2 hgrow)
        have hN2 := Lib.hid (DcS.put hT.out hg.out hr.out hs.out hS.out.ws hown2 hgrow)
        clear hown2 hgrow hown
        go_wp2_with fail
        refine ⟨⟨i, ps ++ [(r, s)], by simp, by simp; omega, hN2⟩, ?_⟩
        show ((i : Nat) : Int).toNat < ((i + 1 : Nat) : Int).toNat
        omega
    · obtain rfl : j = 0 := by omega
      obtain ⟨ao, c2, he, hO⟩ := hS.out.row.done
      have hO' := Lib.hid hO
      have hB' := Lib.hid hS.out.bel
      have hW' := Lib.hid hS.out.ws
      cases he
      have hl : ps.length = N := by omega
      rw [hl] at hO'
      clear hO
      have hl' := Lib.hid hl
      go_wp2_with fail
      go_ret
      exact ⟨ps, _, cap, congrArg (fun k => Ending.returned (.slice (some ⟨g1, 0, none⟩) k cap)) hl'.out, hl'.out, hW'.out, hO'.out, hB'.out⟩
/-- what a call has done that drew a complex number -/
def CxRet (w : World) (e : Ending) (w' : World) : Prop := ∃ r s X Y, e = .returned (.complex .f32 r s) ∧ Is .f32 r X ∧ Is .f32 s Y ∧ Bel w w'
set_option maxHeartbeats 1000000 in
theorem b10Complex_any (w : World) (ao : Option Addr) (n c : Nat) (z : Nat → Int) (hA : IRow .u8 w ao n z) (hn : n ≤ 1048576) : Calls Tryz.prog 22 #[.slice ao n c] w (CxRet w) := by
  go_enter Tryz.func22, Tryz.ntmps22
  go_wp2_with fail
  refine (l00From_any w ao n c z hA hn).mono ?_
  rintro e w1 ⟨rfl, hS1, hB1⟩
  replace hS1 := Lib.hid hS1
  replace hB1 := Lib.hid hB1
  clear hA
  go_wp2_with fail
  refine (one_any w1 _ _ 0 hS1.out (by omega) 4 (by omega) (by omega)).mono ?_
  rintro e w2 ⟨v, rfl, ⟨b, rfl⟩, hS2, hX2⟩
  replace hS2 := Lib.hid hS2
  replace hX2 := Lib.hid hX2
  clear hS1
  cases b with
  | true =>
    go_wp2_with fail
    refine (complex_any w2 _ _ _ hS2.out (by omega)).mono ?_
    rintro e w3 ⟨v, rfl, ⟨r, s, R, S, rfl, hr, hs⟩, hS3, hX3⟩
    have hB4 := Lib.hid (belx_bel hB1.out (hX2.out.trans hX3) (Nat.le_refl _))
    replace hr := Lib.hid hr
    replace hs := Lib.hid hs
    clear hX2 hS3 hX3
    go_wp2_with fail
    go_ret
    exact ⟨_, _, _, _, rfl, hr.out, hs.out, hB4.out⟩
  | false =>
    go_wp2_with fail
    refine (fine_any w2 _ _ _ hS2.out (by omega)).mono ?_
    rintro e w3 ⟨v, rfl, ⟨r, s, R, S, rfl, hr, hs⟩, hS3, hX3⟩
    have hB4 := Lib.hid (belx_bel hB1.out (hX2.out.trans hX3) (Nat.le_refl _))
    replace hr := Lib.hid hr
    replace hs := Lib.hid hs
    clear hX2 hS3 hX3
    go_wp2_with fail
    go_ret
    exact ⟨_, _, _, _, rfl, hr.out, hs.out, hB4.out⟩
/-- what a call has done that drew a row of complex numbers -/
def CRowRet (N : Nat) (w : World) (e : Ending) (w' : World) : Prop := ∃ ps ao c, e = .returned (.slice ao N c) ∧ ps.length = N ∧ WordsC ps ∧ VORow w.heap.size w'.heap.size w' ao N (cvals (fsts ps) (snds ps)) ∧ Bel w w'
theorem VORow.mono {lo hi lo' hi' : Nat} {w : World} {ao : Option Addr} {n : Nat} {f : Nat → Value} (h : VORow lo hi w ao n f) (h1 : lo' ≤ lo) (h2 : hi ≤ hi') : VORow lo' hi' w ao n f :=
  ⟨h.row, fun a ha => by obtain ⟨g1, g2, g3, g4⟩ := h.own a ha; exact ⟨Nat.le_trans h1 g1, Nat.lt_of_lt_of_le g2 h2, g3, g4⟩⟩
theorem b10Any_any (w : World) (ao : Option Addr) (n c : Nat) (z : Nat → Int) (hA : IRow .u8 w ao n z) (hn : n ≤ 1048576) (N : Nat) (hN : N ≤ 100) : Calls Tryz.prog 15 #[.slice ao n c, .int .i64 (N : Int)] w (CRowRet N w) := by
  go_enter Tryz.func15, Tryz.ntmps15
  go_wp2_with fail
  refine (l00From_any w ao n c z hA hn).mono ?_
  rintro e w1 ⟨rfl, hS1, hB1⟩
  replace hS1 := Lib.hid hS1
  replace hB1 := Lib.hid hB1
  clear hA
  go_wp2_with fail
  refine (complexes_any w1 _ _ hS1.out N hN).mono ?_
  rintro e w2 ⟨ps, bo, d, rfl, hl, hws, hO, hX⟩
  have hO' := Lib.hid (VORow.mono hO hB1.out.size (Nat.le_refl _))
  have hB4 := Lib.hid (belx_bel hB1.out hX (Nat.le_refl _))
  replace hl := Lib.hid hl
  replace hws := Lib.hid hws
  clear hO hX
  go_wp2_with fail
  go_ret
  exact ⟨ps, _, _, rfl, hl.out, hws.out, hO'.out, hB4.out⟩
/-- a complex number of small whole parts in a row of one -/
def WhRet (w : World) (e : Ending) (w' : World) : Prop := ∃ (p q : Int) (ao : Option Addr) (c : Nat), e = .returned (.slice ao 1 c) ∧ p.natAbs ≤ 200 ∧ q.natAbs ≤ 200 ∧ VORow w.heap.size w'.heap.size w' ao 1 (cvals [floatOfInt .f32 p] [floatOfInt .f32 q]) ∧ Bel w w'
set_option maxRecDepth 100000 in
set_option maxHeartbeats 2000000 in
theorem b10Whole_any (w : World) (ao : Option Addr) (n c : Nat) (z : Nat → Int) (hA : IRow .u8 w ao n z) (hn : n ≤ 1048576) : Calls Tryz.prog 6 #[.slice ao n c, .int .i64 1, .int .i64 200] w (WhRet w) := by
  obtain ⟨i0, hi0, hz0, hz1, hz2⟩ := info_parts infoC64
  go_enter Tryz.func6, Tryz.ntmps6
  go_wp2_with fail
  refine (l00From_any w ao n c z hA hn).mono ?_
  rintro e w1 ⟨rfl, hS1, hB1⟩
  have hg := Lib.hid hB1.size
  obtain ⟨X, hX⟩ : ∃ X : SCx, X = ⟨ao, n, c, z⟩ := ⟨_, rfl⟩
  rw [← hX] at hS1
  have hD := Lib.hid (show Src (w1.alloc (.cells #[] 24)) w.heap.size X 0 ∧ GCw w1 (w1.alloc (.cells #[] 24)) (.slice (some ⟨w1.heap.size, 0, none⟩) 0 0) [] ∧ BelX (some w.heap.size) w1 (w1.alloc (.cells #[] 24)) from
    ⟨hS1.bel ((Bel.refl w1).alloc _), GCw.start w1 w1 (Nat.le_refl _), BelX.of ((Bel.refl w1).alloc _)⟩)
  have hgl := Lib.hid (src_lt hS1)
  replace hB1 := Lib.hid hB1
  clear hA hX hS1
  go_wp2_with fail
  go_loopw [1, 8] (fun nv v wr => ∃ (j : Nat) (ps : List (Nat × Nat)), nv = .int .i64 (j : Int) ∧ ((j = 1 ∧ ps = []) ∨ (j = 0 ∧ ∃ p q : Int, p.natAbs ≤ 200 ∧ q.natAbs ≤ 200 ∧ ps = [(floatOfInt .f32 p, floatOfInt .f32 q)])) ∧ Hid (Src wr w.heap.size X (20 - 10 * j) ∧ GCw w1 wr v ps ∧ BelX (some w.heap.size) w1 wr)) (fun nv _ _ => (intOf nv).toNat)
  case atStart => exact ⟨1, [], rfl, .inl ⟨rfl, rfl⟩, Lib.hid ⟨hD.out.1.mono (by omega), hD.out.2⟩⟩
  case round =>
    obtain ⟨j, ps, rfl, hjp, hS⟩ := hrel
    obtain ⟨hS0, ⟨g1, cap, rfl, _⟩, _⟩ := hS.out
    rcases hjp with ⟨rfl, rfl⟩ | ⟨rfl, p, q, hp, hq, rfl⟩
    · have hS0' := Lib.hid hS0
      clear hS0
      go_wp2_with fail
      refine (pick_any wr _ _ _ hS0'.out (by omega) 401 (by omega) (by omega)).mono ?_
      rintro e w2 ⟨v, rfl, ⟨x, rfl, hx⟩, hS2, hX2⟩
      have hS2' := Lib.hid hS2
      have hX2' := Lib.hid hX2
      clear hS2 hX2 hS0'
      go_wp2_with fail
      refine (pick_any w2 _ _ _ hS2'.out (by omega) 401 (by omega) (by omega)).mono ?_
      rintro e w3 ⟨v, rfl, ⟨y, rfl, hy⟩, hS3, hX3⟩
      have hS3' := Lib.hid hS3
      have hX3' := Lib.hid (hX2'.out.trans hX3)
      have hT := Lib.hid (show GCw w1 w3 (.slice (some ⟨g1, 0, none⟩) 0 cap) [] ∧ BelX (some w.heap.size) w1 w3 from ⟨hS.out.2.1.belx hX3'.out hgl.out, hS.out.2.2.trans hX3'.out⟩)
      clear hS3 hX3 hS2' hX2'
      obtain ⟨⟨_, _, hvv, hown⟩, hbx⟩ := hT.out
      cases hvv
      have hbs := hbx.size
      clear hbx
      go_wp2_with (at_builtin; refine wpList_app1 rfl _ _ 25 rfl w1.heap.size 24 i0 _ 8 Tryz.underlying25 hi0 hz0 hz1 hz2 rfl (.slice (some ⟨g1, 0, none⟩) 0 cap) 0 _ rfl hown rfl rfl (by omega) (by unfold maxLen; omega) hbs ?_; intro v2 w4 hown2 hgrow)
      have hN2 := Lib.hid (show GCw w1 w4 v2 [(floatOfInt .f32 ((x : Int) - 200), floatOfInt .f32 ((y : Int) - 200))] ∧ Src w4 w.heap.size X 20 ∧ BelX (some w.heap.size) w1 w4 by
        obtain ⟨k1, k2⟩ := hT.out.1.next (x := floatOfInt .f32 ((x : Int) - 200)) (y := floatOfInt .f32 ((y : Int) - 200)) hbs hown2 hgrow
        exact ⟨k1, (hS3'.out.mono (by omega)).below hgl.out k2, hT.out.2.below' k2⟩)
      clear hown2 hgrow hown
      go_wp2_with fail
      refine ⟨⟨0, _, rfl, .inr ⟨rfl, (x : Int) - 200, (y : Int) - 200, by omega, by omega, rfl⟩, Lib.hid ⟨hN2.out.2.1, hN2.out.1, hN2.out.2.2⟩⟩, ?_⟩
      show (((0 : Nat) : Int)).toNat < ((1 : Nat) : Int).toNat
      decide
    · obtain ⟨ao2, c2, he, hO⟩ := hS.out.2.1.done
      have hO' := Lib.hid (VORow.mono hO hg.out (Nat.le_refl _))
      have hB' := Lib.hid (belx_bel hB1.out hS.out.2.2 (Nat.le_refl _))
      cases he
      clear hO hS0
      go_wp2_with fail
      go_ret
      exact ⟨p, q, _, cap, rfl, hp, hq, hO'.out, hB'.out⟩
end Go.Proofs.YtianaalokclklaaGreatDoor
end

/-
  PLAIN LAWS: a 32-bit number widened and narrowed again; a text of texts cut. (No program here.)
-/
section
set_option linter.unusedVariables false
set_option linter.unusedSimpArgs false
namespace Go.Fl
open Go Ieee Go.RowKit

theorem narrow_fin (neg : Bool) {r r0 : Nat} (hr : r < 2139095040) (hr0 : r0 < 9218868437227405312) (hv : rv Ieee.double r0 = rv Ieee.single r * 2 ^ 925) :
    floatToFloatBits .f64 (Ieee.double.word neg r0) .f32 = some (Ieee.single.word neg r) := by
  obtain ⟨mm, ee, hread, hle, hval, _⟩ := read_fin Ieee.double neg (r := r0) (by rw [inf64]; exact hr0)
  have henc : FloatKind.encode .f32 (.number neg mm ee) = Ieee.single.word neg r := by
    show Ieee.single.nearest neg mm ee = _
    refine nearest_exact _ _ (by rw [inf32]; omega) ?_
    rw [lp64] at hle hval
    rw [lp32]
    rw [hv] at hval
    by_cases h : (-149 : Int) ≤ ee
    · have e1 : ((-149 : Int) - ee).toNat = 0 := by omega
      have e2 : (ee - (-1074 : Int)).toNat = (ee - (-149 : Int)).toNat + 925 := by omega
      rw [e2, Nat.pow_add, ← Nat.mul_assoc] at hval
      rw [e1, Nat.pow_zero, Nat.mul_one]
      exact Nat.eq_of_mul_eq_mul_right (Nat.two_pow_pos 925) hval
    · have e1 : (ee - (-149 : Int)).toNat = 0 := by omega
      obtain ⟨b, hb⟩ : ∃ b, b = ((-149 : Int) - ee).toNat := ⟨_, rfl⟩
      obtain ⟨c, hc⟩ : ∃ c, c = (ee - (-1074 : Int)).toNat := ⟨_, rfl⟩
      have e3 : 925 = b + c := by omega
      rw [← hc] at hval
      rw [e3, Nat.pow_add, ← Nat.mul_assoc] at hval
      rw [e1, ← hb, Nat.pow_zero, Nat.mul_one]
      exact Nat.eq_of_mul_eq_mul_right (Nat.two_pow_pos c) hval
  obtain ⟨m2, e2, hread2, _, _, _⟩ := read_fin Ieee.single neg (r := r) (by rw [inf32]; exact hr)
  unfold floatToFloatBits
  rw [if_neg (by decide)]
  have hd : FloatKind.f64.decode (Ieee.double.word neg r0) = .number neg mm ee := hread
  simp only [hd, henc]
  have hd2 : FloatKind.f32.decode (Ieee.single.word neg r) = .number neg m2 e2 := hread2
  rw [hd2]
  rfl
/-- a 32-bit number widened and narrowed is itself -/
theorem nar_wid {X : Nat} (hX : Can .f32 X) : nar (wid X) = X ∧ NoOv (wid X) := by
  have hlt := can32_lt hX
  cases hn : isn .f32 X with
  | true =>
    rw [wid_nan hn, hX.nan hn]
    exact ⟨by decide +kernel, .inl (by decide +kernel)⟩
  | false =>
    have hw : X = Ieee.single.word (ng FloatKind.f32.format X) (X % 2147483648) := by
      have := word_of (k := .f32) (X := X) (by rw [w32]; exact hlt)
      rw [rg32] at this; exact this
    obtain ⟨r0, h0, h1, h2, h3⟩ := wid_cases hlt hn
    rw [isn32, decide_eq_false_iff_not] at hn
    rcases Nat.lt_or_ge (X % 2147483648) 2139095040 with g | g
    · obtain ⟨k1, k2⟩ := h2 g
      have := narrow_fin (ng FloatKind.f32.format X) g k1 k2
      rw [← hw] at this
      rw [h1]
      unfold nar NoOv
      rw [this]
      exact ⟨rfl, .inr rfl⟩
    · have e : X % 2147483648 = 2139095040 := by omega
      have : X = 2139095040 ∨ X = 4286578688 := by omega
      rcases this with rfl | rfl
      · exact ⟨by decide +kernel, .inr (by decide +kernel)⟩
      · exact ⟨by decide +kernel, .inr (by decide +kernel)⟩
/-! ### a text of texts cut -/
theorem pc_app (c : UInt8) : ∀ (l cur m : List UInt8), pc c cur (l ++ c :: m) = pc c cur l ++ pc c [] m
  | [], cur, m => by simp [pc]
  | b :: l, cur, m => by
    rw [List.cons_append, pc, pc]
    split
    · rw [pc_app c l [] m]; rfl
    · exact pc_app c l _ m
theorem pc_one (c : UInt8) : ∀ (l cur : List UInt8), (∀ b ∈ l, b ≠ c) → pc c cur l = [cur ++ l]
  | [], cur, _ => by simp [pc]
  | b :: l, cur, h => by
    rw [pc, if_neg (h b (by simp)), pc_one c l _ (fun x hx => h x (by simp [hx]))]
    simp
theorem pcs_tx (f : Nat → List UInt8) (h : ∀ i, ∀ b ∈ f i, b ≠ 44) : ∀ k, pcs (tx f (k + 1)) = (List.range (k + 1)).map f
  | 0 => by
    show pc 44 [] (f 0) = _
    rw [pc_one 44 _ _ (h 0)]; rfl
  | k + 1 => by
    rw [tx_succ f (by omega)]
    show pc 44 [] _ = _
    rw [pc_app, pc_one 44 (f (k + 1)) [] (h (k + 1))]
    have := pcs_tx f h k
    show pcs (tx f (k + 1)) ++ _ = _
    rw [this, List.range_succ (n := k + 1)]
    simp
theorem hexK_44 (k n : Nat) : ∀ b ∈ hexK k n, b ≠ 44 := by
  intro b hb e
  subst e
  have := allH_hexK k n
  unfold allH at this
  rw [List.all_eq_true] at this
  have := this _ hb
  revert this
  decide
theorem pieces_txt (f : Nat → List UInt8) (h : ∀ i, ∀ b ∈ f i, b ≠ 44) (hl : ∀ i, 8 ≤ (f i).length) (n : Nat) (hn : 1 ≤ n) : (pcs (txt f n)).length = n ∧ (∀ i, i < n → pieceN (txt f n) i = f i) ∧ noneB (txt f n) = false := by
  obtain ⟨k, rfl⟩ : ∃ k, n = k + 1 := ⟨n - 1, by omega⟩
  have e : txt f (k + 1) = tx f (k + 1) := by unfold txt; rw [if_neg (by omega)]
  rw [e]
  have hp := pcs_tx f h k
  refine ⟨by rw [hp]; simp, fun i hi => ?_, ?_⟩
  · unfold pieceN
    rw [hp, List.getD_eq_getElem?_getD]
    simp [hi]
  · cases hb : noneB (tx f (k + 1)) with
    | false => rfl
    | true =>
      have hq : tx f (k + 1) = [110, 111, 110, 101] := by unfold noneB at hb; simpa using hb
      rw [hq] at hp
      have h1 : pcs [110, 111, 110, 101] = [[110, 111, 110, 101]] := by decide
      rw [h1] at hp
      have h2 := congrArg (fun L => L.getD 0 []) hp
      have h3 : f 0 = [110, 111, 110, 101] := by simpa [List.getD_eq_getElem?_getD] using h2.symm
      have := hl 0
      rw [h3] at this
      simp at this
end Go.Fl
end

/-
  CONTRACTS: complex arithmetic.
-/
section
set_option linter.unusedSimpArgs false
set_option linter.unusedVariables false
namespace Go.Proofs.YtianaalokclklaaGreatDoor
open Go.RowKit Go.Fl

/-- a complex number handed back -/
def KRet (A B : Nat) (w : World) (e : Ending) (w' : World) : Prop := ∃ a b, e = .returned (.complex .f32 a b) ∧ Is .f32 a A ∧ Is .f32 b B ∧ Dr w w'
/-- two floats handed back -/
def PRet (A B : Nat) (w : World) (e : Ending) (w' : World) : Prop := ∃ a b, e = .returned (.tuple #[.float .f64 a, .float .f64 b]) ∧ Is .f64 a A ∧ Is .f64 b B ∧ Dr w w'
theorem parts_any (x X y Y : Nat) (hx : Is .f32 x X) (hy : Is .f32 y Y) (w : World) : Calls Tryz.prog 40 #[.complex .f32 x y] w (PRet (wid X) (wid Y) w) := by
  go_enter Tryz.func40, Tryz.ntmps40
  go_wp2_with ((with_reducible refine wpList_here ?_); (first | ((with_reducible refine wpList_widen Tryz.underlying28 Tryz.underlying46 (bx := ?_) (X := ?_) ?_ ?_ ?_ ?_); rotate_left 2; (first | (with_reducible exact wanted_none) | ((with_reducible refine wanted_some ?_); rfl)); (rfl); (first | assumption | ((refine Is.lit ?_); decide +kernel) | (refine Is.ofInt _ _)); (intro r nd hr); (try simp only [Act.put, List.setIfInBounds_toArray, List.set_cons_succ, List.set_cons_zero, World.drewN_drewN]))))
  go_ret2
  exact ⟨_, _, rfl, by assumption, by assumption, (by repeat (first | exact Dr.refl _ | apply Dr.drewN))⟩
abbrev prRe (A B C D : Nat) : Nat := fop .sub .f64 (fop .mul .f64 A C) (fop .mul .f64 B D)
abbrev prIm (A B C D : Nat) : Nat := fop .add .f64 (fop .mul .f64 A D) (fop .mul .f64 B C)
theorem product_any (a A b B c C d D : Nat) (ha : Is .f64 a A) (hb : Is .f64 b B) (hc : Is .f64 c C) (hd : Is .f64 d D) (w : World) : Calls Tryz.prog 41 #[.float .f64 a, .float .f64 b, .float .f64 c, .float .f64 d] w (PRet (prRe A B C D) (prIm A B C D) w) := by
  go_enter Tryz.func41, Tryz.ntmps41
  go_wp2_with ((with_reducible refine wpList_here ?_); (first | ((with_reducible refine wpList_feq (k := ?_) (bx := ?_) (by' := ?_) (X := ?_) (Y := ?_) ?_ ?_ ?_ ?_ ?_ ?_); rotate_left 5; (first | (with_reducible exact wanted_none) | ((with_reducible refine wanted_some ?_); rfl)); (rfl); (rfl); (first | assumption | ((refine Is.lit ?_); decide +kernel) | (refine Is.ofInt _ _)); (first | assumption | ((refine Is.lit ?_); decide +kernel) | (refine Is.ofInt _ _)); (try simp only [Act.put, List.setIfInBounds_toArray, List.set_cons_succ, List.set_cons_zero, World.drewN_drewN])) | ((with_reducible refine wpList_fne (k := ?_) (bx := ?_) (by' := ?_) (X := ?_) (Y := ?_) ?_ ?_ ?_ ?_ ?_ ?_); rotate_left 5; (first | (with_reducible exact wanted_none) | ((with_reducible refine wanted_some ?_); rfl)); (rfl); (rfl); (first | assumption | ((refine Is.lit ?_); decide +kernel) | (refine Is.ofInt _ _)); (first | assumption | ((refine Is.lit ?_); decide +kernel) | (refine Is.ofInt _ _)); (try simp only [Act.put, List.setIfInBounds_toArray, List.set_cons_succ, List.set_cons_zero, World.drewN_drewN])) | ((with_reducible refine wpList_flt (k := ?_) (bx := ?_) (by' := ?_) (X := ?_) (Y := ?_) ?_ ?_ ?_ ?_ ?_ ?_); rotate_left 5; (first | (with_reducible exact wanted_none) | ((with_reducible refine wanted_some ?_); rfl)); (rfl); (rfl); (first | assumption | ((refine Is.lit ?_); decide +kernel) | (refine Is.ofInt _ _)); (first | assumption | ((refine Is.lit ?_); decide +kernel) | (refine Is.ofInt _ _)); (try simp only [Act.put, List.setIfInBounds_toArray, List.set_cons_succ, List.set_cons_zero, World.drewN_drewN])) | ((with_reducible refine wpList_fle (k := ?_) (bx := ?_) (by' := ?_) (X := ?_) (Y := ?_) ?_ ?_ ?_ ?_ ?_ ?_); rotate_left 5; (first | (with_reducible exact wanted_none) | ((with_reducible refine wanted_some ?_); rfl)); (rfl); (rfl); (first | assumption | ((refine Is.lit ?_); decide +kernel) | (refine Is.ofInt _ _)); (first | assumption | ((refine Is.lit ?_); decide +kernel) | (refine Is.ofInt _ _)); (try simp only [Act.put, List.setIfInBounds_toArray, List.set_cons_succ, List.set_cons_zero, World.drewN_drewN])) | ((with_reducible refine wpList_fgt (k := ?_) (bx := ?_) (by' := ?_) (X := ?_) (Y := ?_) ?_ ?_ ?_ ?_ ?_ ?_); rotate_left 5; (first | (with_reducible exact wanted_none) | ((with_reducible refine wanted_some ?_); rfl)); (rfl); (rfl); (first | assumption | ((refine Is.lit ?_); decide +kernel) | (refine Is.ofInt _ _)); (first | assumption | ((refine Is.lit ?_); decide +kernel) | (refine Is.ofInt _ _)); (try simp only [Act.put, List.setIfInBounds_toArray, List.set_cons_succ, List.set_cons_zero, World.drewN_drewN])) | ((with_reducible refine wpList_fge (k := ?_) (bx := ?_) (by' := ?_) (X := ?_) (Y := ?_) ?_ ?_ ?_ ?_ ?_ ?_); rotate_left 5; (first | (with_reducible exact wanted_none) | ((with_reducible refine wanted_some ?_); rfl)); (rfl); (rfl); (first | assumption | ((refine Is.lit ?_); decide +kernel) | (refine Is.ofInt _ _)); (first | assumption | ((refine Is.lit ?_); decide +kernel) | (refine Is.ofInt _ _)); (try simp only [Act.put, List.setIfInBounds_toArray, List.set_cons_succ, List.set_cons_zero, World.drewN_drewN])) | ((with_reducible refine wpList_fadd (k := ?_) (bx := ?_) (by' := ?_) (X := ?_) (Y := ?_) ?_ ?_ ?_ ?_ ?_ ?_); rotate_left 5; (first | (with_reducible exact wanted_none) | ((with_reducible refine wanted_some ?_); rfl)); (rfl); (rfl); (first | assumption | ((refine Is.lit ?_); decide +kernel) | (refine Is.ofInt _ _)); (first | assumption | ((refine Is.lit ?_); decide +kernel) | (refine Is.ofInt _ _)); (intro r nd hr); (try simp only [Act.put, List.setIfInBounds_toArray, List.set_cons_succ, List.set_cons_zero, World.drewN_drewN])) | ((with_reducible refine wpList_fsub (k := ?_) (bx := ?_) (by' := ?_) (X := ?_) (Y := ?_) ?_ ?_ ?_ ?_ ?_ ?_); rotate_left 5; (first | (with_reducible exact wanted_none) | ((with_reducible refine wanted_some ?_); rfl)); (rfl); (rfl); (first | assumption | ((refine Is.lit ?_); decide +kernel) | (refine Is.ofInt _ _)); (first | assumption | ((refine Is.lit ?_); decide +kernel) | (refine Is.ofInt _ _)); (intro r nd hr); (try simp only [Act.put, List.setIfInBounds_toArray, List.set_cons_succ, List.set_cons_zero, World.drewN_drewN])) | ((with_reducible refine wpList_fmul (k := ?_) (bx := ?_) (by' := ?_) (X := ?_) (Y := ?_) ?_ ?_ ?_ ?_ ?_ ?_); rotate_left 5; (first | (with_reducible exact wanted_none) | ((with_reducible refine wanted_some ?_); rfl)); (rfl); (rfl); (first | assumption | ((refine Is.lit ?_); decide +kernel) | (refine Is.ofInt _ _)); (first | assumption | ((refine Is.lit ?_); decide +kernel) | (refine Is.ofInt _ _)); (intro r nd hr); (try simp only [Act.put, List.setIfInBounds_toArray, List.set_cons_succ, List.set_cons_zero, World.drewN_drewN])) | ((with_reducible refine wpList_fquo (k := ?_) (bx := ?_) (by' := ?_) (X := ?_) (Y := ?_) ?_ ?_ ?_ ?_ ?_ ?_); rotate_left 5; (first | (with_reducible exact wanted_none) | ((with_reducible refine wanted_some ?_); rfl)); (rfl); (rfl); (first | assumption | ((refine Is.lit ?_); decide +kernel) | (refine Is.ofInt _ _)); (first | assumption | ((refine Is.lit ?_); decide +kernel) | (refine Is.ofInt _ _)); (intro r nd hr); (try simp only [Act.put, List.setIfInBounds_toArray, List.set_cons_succ, List.set_cons_zero, World.drewN_drewN]))))
  go_ret2
  exact ⟨_, _, rfl, by assumption, by assumption, (by repeat (first | exact Dr.refl _ | apply Dr.drewN))⟩
abbrev mlRe (A B C D : Nat) : Nat := prRe (wid A) (wid B) (wid C) (wid D)
abbrev mlIm (A B C D : Nat) : Nat := prIm (wid A) (wid B) (wid C) (wid D)
theorem mul_any (a A b B c C d D : Nat) (ha : Is .f32 a A) (hb : Is .f32 b B) (hc : Is .f32 c C) (hd : Is .f32 d D) (n1 : NoOv (mlRe A B C D)) (n2 : NoOv (mlIm A B C D)) (w : World) :
    Calls Tryz.prog 7 #[.complex .f32 a b, .complex .f32 c d] w (KRet (nar (mlRe A B C D)) (nar (mlIm A B C D)) w) := by
  go_enter Tryz.func7, Tryz.ntmps7
  go_wp2_with (first
    | (go_at_call 40; refine (parts_any _ _ _ _ (by assumption) (by assumption) _).mono ?_; rintro e w' ⟨r, s, rfl, hr, hs, nd, rfl⟩)
    | (go_at_call 41; refine (product_any _ _ _ _ _ _ _ _ (by assumption) (by assumption) (by assumption) (by assumption) _).mono ?_; rintro e w' ⟨r, s, rfl, hr, hs, nd, rfl⟩)
    | ((with_reducible refine wpList_here ?_); (first | ((with_reducible refine wpList_narrow Tryz.underlying46 Tryz.underlying28 (bx := ?_) (X := ?_) ?_ ?_ ?_ ?_ ?_); rotate_left 2; (first | (with_reducible exact wanted_none) | ((with_reducible refine wanted_some ?_); rfl)); (rfl); (first | assumption | ((refine Is.lit ?_); decide +kernel) | (refine Is.ofInt _ _)); assumption; (intro r nd hr); (try simp only [Act.put, List.setIfInBounds_toArray, List.set_cons_succ, List.set_cons_zero, World.drewN_drewN])))))
  go_ret
  exact ⟨_, _, rfl, by assumption, by assumption, (by repeat (first | exact Dr.refl _ | apply Dr.drewN))⟩
abbrev pwF (A B : Nat) : Nat := fop .add .f64 (fop .mul .f64 (wid A) (wid A)) (fop .mul .f64 (wid B) (wid B))
theorem powerOf_any (a A b B : Nat) (ha : Is .f32 a A) (hb : Is .f32 b B) (w : World) : Calls Tryz.prog 42 #[.complex .f32 a b] w (FRet .f64 (pwF A B) w) := by
  go_enter Tryz.func42, Tryz.ntmps42
  go_wp2_with (first
    | (go_at_call 40; refine (parts_any _ _ _ _ (by assumption) (by assumption) _).mono ?_; rintro e w' ⟨r, s, rfl, hr, hs, nd, rfl⟩)
    | ((with_reducible refine wpList_here ?_); (first | ((with_reducible refine wpList_feq (k := ?_) (bx := ?_) (by' := ?_) (X := ?_) (Y := ?_) ?_ ?_ ?_ ?_ ?_ ?_); rotate_left 5; (first | (with_reducible exact wanted_none) | ((with_reducible refine wanted_some ?_); rfl)); (rfl); (rfl); (first | assumption | ((refine Is.lit ?_); decide +kernel) | (refine Is.ofInt _ _)); (first | assumption | ((refine Is.lit ?_); decide +kernel) | (refine Is.ofInt _ _)); (try simp only [Act.put, List.setIfInBounds_toArray, List.set_cons_succ, List.set_cons_zero, World.drewN_drewN])) | ((with_reducible refine wpList_fne (k := ?_) (bx := ?_) (by' := ?_) (X := ?_) (Y := ?_) ?_ ?_ ?_ ?_ ?_ ?_); rotate_left 5; (first | (with_reducible exact wanted_none) | ((with_reducible refine wanted_some ?_); rfl)); (rfl); (rfl); (first | assumption | ((refine Is.lit ?_); decide +kernel) | (refine Is.ofInt _ _)); (first | assumption | ((refine Is.lit ?_); decide +kernel) | (refine Is.ofInt _ _)); (try simp only [Act.put, List.setIfInBounds_toArray, List.set_cons_succ, List.set_cons_zero, World.drewN_drewN])) | ((with_reducible refine wpList_flt (k := ?_) (bx := ?_) (by' := ?_) (X := ?_) (Y := ?_) ?_ ?_ ?_ ?_ ?_ ?_); rotate_left 5; (first | (with_reducible exact wanted_none) | ((with_reducible refine wanted_some ?_); rfl)); (rfl); (rfl); (first | assumption | ((refine Is.lit ?_); decide +kernel) | (refine Is.ofInt _ _)); (first | assumption | ((refine Is.lit ?_); decide +kernel) | (refine Is.ofInt _ _)); (try simp only [Act.put, List.setIfInBounds_toArray, List.set_cons_succ, List.set_cons_zero, World.drewN_drewN])) | ((with_reducible refine wpList_fle (k := ?_) (bx := ?_) (by' := ?_) (X := ?_) (Y := ?_) ?_ ?_ ?_ ?_ ?_ ?_); rotate_left 5; (first | (with_reducible exact wanted_none) | ((with_reducible refine wanted_some ?_); rfl)); (rfl); (rfl); (first | assumption | ((refine Is.lit ?_); decide +kernel) | (refine Is.ofInt _ _)); (first | assumption | ((refine Is.lit ?_); decide +kernel) | (refine Is.ofInt _ _)); (try simp only [Act.put, List.setIfInBounds_toArray, List.set_cons_succ, List.set_cons_zero, World.drewN_drewN])) | ((with_reducible refine wpList_fgt (k := ?_) (bx := ?_) (by' := ?_) (X := ?_) (Y := ?_) ?_ ?_ ?_ ?_ ?_ ?_); rotate_left 5; (first | (with_reducible exact wanted_none) | ((with_reducible refine wanted_some ?_); rfl)); (rfl); (rfl); (first | assumption | ((refine Is.lit ?_); decide +kernel) | (refine Is.ofInt _ _)); (first | assumption | ((refine Is.lit ?_); decide +kernel) | (refine Is.ofInt _ _)); (try simp only [Act.put, List.setIfInBounds_toArray, List.set_cons_succ, List.set_cons_zero, World.drewN_drewN])) | ((with_reducible refine wpList_fge (k := ?_) (bx := ?_) (by' := ?_) (X := ?_) (Y := ?_) ?_ ?_ ?_ ?_ ?_ ?_); rotate_left 5; (first | (with_reducible exact wanted_none) | ((with_reducible refine wanted_some ?_); rfl)); (rfl); (rfl); (first | assumption | ((refine Is.lit ?_); decide +kernel) | (refine Is.ofInt _ _)); (first | assumption | ((refine Is.lit ?_); decide +kernel) | (refine Is.ofInt _ _)); (try simp only [Act.put, List.setIfInBounds_toArray, List.set_cons_succ, List.set_cons_zero, World.drewN_drewN])) | ((with_reducible refine wpList_fadd (k := ?_) (bx := ?_) (by' := ?_) (X := ?_) (Y := ?_) ?_ ?_ ?_ ?_ ?_ ?_); rotate_left 5; (first | (with_reducible exact wanted_none) | ((with_reducible refine wanted_some ?_); rfl)); (rfl); (rfl); (first | assumption | ((refine Is.lit ?_); decide +kernel) | (refine Is.ofInt _ _)); (first | assumption | ((refine Is.lit ?_); decide +kernel) | (refine Is.ofInt _ _)); (intro r nd hr); (try simp only [Act.put, List.setIfInBounds_toArray, List.set_cons_succ, List.set_cons_zero, World.drewN_drewN])) | ((with_reducible refine wpList_fsub (k := ?_) (bx := ?_) (by' := ?_) (X := ?_) (Y := ?_) ?_ ?_ ?_ ?_ ?_ ?_); rotate_left 5; (first | (with_reducible exact wanted_none) | ((with_reducible refine wanted_some ?_); rfl)); (rfl); (rfl); (first | assumption | ((refine Is.lit ?_); decide +kernel) | (refine Is.ofInt _ _)); (first | assumption | ((refine Is.lit ?_); decide +kernel) | (refine Is.ofInt _ _)); (intro r nd hr); (try simp only [Act.put, List.setIfInBounds_toArray, List.set_cons_succ, List.set_cons_zero, World.drewN_drewN])) | ((with_reducible refine wpList_fmul (k := ?_) (bx := ?_) (by' := ?_) (X := ?_) (Y := ?_) ?_ ?_ ?_ ?_ ?_ ?_); rotate_left 5; (first | (with_reducible exact wanted_none) | ((with_reducible refine wanted_some ?_); rfl)); (rfl); (rfl); (first | assumption | ((refine Is.lit ?_); decide +kernel) | (refine Is.ofInt _ _)); (first | assumption | ((refine Is.lit ?_); decide +kernel) | (refine Is.ofInt _ _)); (intro r nd hr); (try simp only [Act.put, List.setIfInBounds_toArray, List.set_cons_succ, List.set_cons_zero, World.drewN_drewN])) | ((with_reducible refine wpList_fquo (k := ?_) (bx := ?_) (by' := ?_) (X := ?_) (Y := ?_) ?_ ?_ ?_ ?_ ?_ ?_); rotate_left 5; (first | (with_reducible exact wanted_none) | ((with_reducible refine wanted_some ?_); rfl)); (rfl); (rfl); (first | assumption | ((refine Is.lit ?_); decide +kernel) | (refine Is.ofInt _ _)); (first | assumption | ((refine Is.lit ?_); decide +kernel) | (refine Is.ofInt _ _)); (intro r nd hr); (try simp only [Act.put, List.setIfInBounds_toArray, List.set_cons_succ, List.set_cons_zero, World.drewN_drewN])))))
  go_ret
  exact ⟨_, rfl, by assumption, (by repeat (first | exact Dr.refl _ | apply Dr.drewN))⟩
theorem iPowerOf_any (a A b B : Nat) (ha : Is .f32 a A) (hb : Is .f32 b B) (n1 : NoOv (pwF A B)) (w : World) : Calls Tryz.prog 8 #[.complex .f32 a b] w (FRet .f32 (nar (pwF A B)) w) := by
  go_enter Tryz.func8, Tryz.ntmps8
  go_wp2_with (first
    | (go_at_call 42; refine (powerOf_any _ _ _ _ (by assumption) (by assumption) _).mono ?_; rintro e w' ⟨r, rfl, hr, nd, rfl⟩)
    | ((with_reducible refine wpList_here ?_); (first | ((with_reducible refine wpList_narrow Tryz.underlying46 Tryz.underlying28 (bx := ?_) (X := ?_) ?_ ?_ ?_ ?_ ?_); rotate_left 2; (first | (with_reducible exact wanted_none) | ((with_reducible refine wanted_some ?_); rfl)); (rfl); (first | assumption | ((refine Is.lit ?_); decide +kernel) | (refine Is.ofInt _ _)); assumption; (intro r nd hr); (try simp only [Act.put, List.setIfInBounds_toArray, List.set_cons_succ, List.set_cons_zero, World.drewN_drewN])))))
  go_ret
  exact ⟨_, rfl, by assumption, (by repeat (first | exact Dr.refl _ | apply Dr.drewN))⟩
theorem iLongOf_any (a A b B : Nat) (ha : Is .f32 a A) (hb : Is .f32 b B) (n1 : NoOv (fsqrt (pwF A B))) (w : World) : Calls Tryz.prog 11 #[.complex .f32 a b] w (FRet .f32 (nar (fsqrt (pwF A B))) w) := by
  go_enter Tryz.func11, Tryz.ntmps11
  go_wp2_with (first
    | (go_at_call 42; refine (powerOf_any _ _ _ _ (by assumption) (by assumption) _).mono ?_; rintro e w' ⟨r, rfl, hr, nd, rfl⟩)
    | (go_at_call 44; refine (Sqrt_any _ _ (by assumption) _).mono ?_; rintro e w' ⟨r, rfl, hr, n, rfl⟩) | ((with_reducible refine wpList_here ?_); (first | ((with_reducible refine wpList_narrow Tryz.underlying46 Tryz.underlying28 (bx := ?_) (X := ?_) ?_ ?_ ?_ ?_ ?_); rotate_left 2; (first | (with_reducible exact wanted_none) | ((with_reducible refine wanted_some ?_); rfl)); (rfl); (first | assumption | ((refine Is.lit ?_); decide +kernel) | (refine Is.ofInt _ _)); assumption; (intro r nd hr); (try simp only [Act.put, List.setIfInBounds_toArray, List.set_cons_succ, List.set_cons_zero, World.drewN_drewN])))))
  go_ret
  exact ⟨_, rfl, by assumption, (by repeat (first | exact Dr.refl _ | apply Dr.drewN))⟩
theorem iConj_any (a A b B : Nat) (ha : Is .f32 a A) (hb : Is .f32 b B) (w : World) : Calls Tryz.prog 9 #[.complex .f32 a b] w (KRet A (fneg .f32 B) w) := by
  go_enter Tryz.func9, Tryz.ntmps9
  go_wp2_with ((with_reducible refine wpList_here ?_); (first | ((with_reducible refine wpList_fneg (k := ?_) (bx := ?_) (X := ?_) ?_ ?_ ?_ ?_); rotate_left 3; (first | (with_reducible exact wanted_none) | ((with_reducible refine wanted_some ?_); rfl)); (rfl); (first | assumption | ((refine Is.lit ?_); decide +kernel) | (refine Is.ofInt _ _)); (intro r hr); (try simp only [Act.put, List.setIfInBounds_toArray, List.set_cons_succ, List.set_cons_zero, World.drewN_drewN]))))
  go_ret
  exact ⟨_, _, rfl, by assumption, by assumption, (by repeat (first | exact Dr.refl _ | apply Dr.drewN))⟩
theorem iScale_any (a A b B c C : Nat) (ha : Is .f32 a A) (hb : Is .f32 b B) (hc : Is .f32 c C) (w : World) : Calls Tryz.prog 14 #[.complex .f32 a b, .float .f32 c] w (KRet (fop .mul .f32 A C) (fop .mul .f32 B C) w) := by
  go_enter Tryz.func14, Tryz.ntmps14
  go_wp2_with ((with_reducible refine wpList_here ?_); (first | ((with_reducible refine wpList_feq (k := ?_) (bx := ?_) (by' := ?_) (X := ?_) (Y := ?_) ?_ ?_ ?_ ?_ ?_ ?_); rotate_left 5; (first | (with_reducible exact wanted_none) | ((with_reducible refine wanted_some ?_); rfl)); (rfl); (rfl); (first | assumption | ((refine Is.lit ?_); decide +kernel) | (refine Is.ofInt _ _)); (first | assumption | ((refine Is.lit ?_); decide +kernel) | (refine Is.ofInt _ _)); (try simp only [Act.put, List.setIfInBounds_toArray, List.set_cons_succ, List.set_cons_zero, World.drewN_drewN])) | ((with_reducible refine wpList_fne (k := ?_) (bx := ?_) (by' := ?_) (X := ?_) (Y := ?_) ?_ ?_ ?_ ?_ ?_ ?_); rotate_left 5; (first | (with_reducible exact wanted_none) | ((with_reducible refine wanted_some ?_); rfl)); (rfl); (rfl); (first | assumption | ((refine Is.lit ?_); decide +kernel) | (refine Is.ofInt _ _)); (first | assumption | ((refine Is.lit ?_); decide +kernel) | (refine Is.ofInt _ _)); (try simp only [Act.put, List.setIfInBounds_toArray, List.set_cons_succ, List.set_cons_zero, World.drewN_drewN])) | ((with_reducible refine wpList_flt (k := ?_) (bx := ?_) (by' := ?_) (X := ?_) (Y := ?_) ?_ ?_ ?_ ?_ ?_ ?_); rotate_left 5; (first | (with_reducible exact wanted_none) | ((with_reducible refine wanted_some ?_); rfl)); (rfl); (rfl); (first | assumption | ((refine Is.lit ?_); decide +kernel) | (refine Is.ofInt _ _)); (first | assumption | ((refine Is.lit ?_); decide +kernel) | (refine Is.ofInt _ _)); (try simp only [Act.put, List.setIfInBounds_toArray, List.set_cons_succ, List.set_cons_zero, World.drewN_drewN])) | ((with_reducible refine wpList_fle (k := ?_) (bx := ?_) (by' := ?_) (X := ?_) (Y := ?_) ?_ ?_ ?_ ?_ ?_ ?_); rotate_left 5; (first | (with_reducible exact wanted_none) | ((with_reducible refine wanted_some ?_); rfl)); (rfl); (rfl); (first | assumption | ((refine Is.lit ?_); decide +kernel) | (refine Is.ofInt _ _)); (first | assumption | ((refine Is.lit ?_); decide +kernel) | (refine Is.ofInt _ _)); (try simp only [Act.put, List.setIfInBounds_toArray, List.set_cons_succ, List.set_cons_zero, World.drewN_drewN])) | ((with_reducible refine wpList_fgt (k := ?_) (bx := ?_) (by' := ?_) (X := ?_) (Y := ?_) ?_ ?_ ?_ ?_ ?_ ?_); rotate_left 5; (first | (with_reducible exact wanted_none) | ((with_reducible refine wanted_some ?_); rfl)); (rfl); (rfl); (first | assumption | ((refine Is.lit ?_); decide +kernel) | (refine Is.ofInt _ _)); (first | assumption | ((refine Is.lit ?_); decide +kernel) | (refine Is.ofInt _ _)); (try simp only [Act.put, List.setIfInBounds_toArray, List.set_cons_succ, List.set_cons_zero, World.drewN_drewN])) | ((with_reducible refine wpList_fge (k := ?_) (bx := ?_) (by' := ?_) (X := ?_) (Y := ?_) ?_ ?_ ?_ ?_ ?_ ?_); rotate_left 5; (first | (with_reducible exact wanted_none) | ((with_reducible refine wanted_some ?_); rfl)); (rfl); (rfl); (first | assumption | ((refine Is.lit ?_); decide +kernel) | (refine Is.ofInt _ _)); (first | assumption | ((refine Is.lit ?_); decide +kernel) | (refine Is.ofInt _ _)); (try simp only [Act.put, List.setIfInBounds_toArray, List.set_cons_succ, List.set_cons_zero, World.drewN_drewN])) | ((with_reducible refine wpList_fadd (k := ?_) (bx := ?_) (by' := ?_) (X := ?_) (Y := ?_) ?_ ?_ ?_ ?_ ?_ ?_); rotate_left 5; (first | (with_reducible exact wanted_none) | ((with_reducible refine wanted_some ?_); rfl)); (rfl); (rfl); (first | assumption | ((refine Is.lit ?_); decide +kernel) | (refine Is.ofInt _ _)); (first | assumption | ((refine Is.lit ?_); decide +kernel) | (refine Is.ofInt _ _)); (intro r nd hr); (try simp only [Act.put, List.setIfInBounds_toArray, List.set_cons_succ, List.set_cons_zero, World.drewN_drewN])) | ((with_reducible refine wpList_fsub (k := ?_) (bx := ?_) (by' := ?_) (X := ?_) (Y := ?_) ?_ ?_ ?_ ?_ ?_ ?_); rotate_left 5; (first | (with_reducible exact wanted_none) | ((with_reducible refine wanted_some ?_); rfl)); (rfl); (rfl); (first | assumption | ((refine Is.lit ?_); decide +kernel) | (refine Is.ofInt _ _)); (first | assumption | ((refine Is.lit ?_); decide +kernel) | (refine Is.ofInt _ _)); (intro r nd hr); (try simp only [Act.put, List.setIfInBounds_toArray, List.set_cons_succ, List.set_cons_zero, World.drewN_drewN])) | ((with_reducible refine wpList_fmul (k := ?_) (bx := ?_) (by' := ?_) (X := ?_) (Y := ?_) ?_ ?_ ?_ ?_ ?_ ?_); rotate_left 5; (first | (with_reducible exact wanted_none) | ((with_reducible refine wanted_some ?_); rfl)); (rfl); (rfl); (first | assumption | ((refine Is.lit ?_); decide +kernel) | (refine Is.ofInt _ _)); (first | assumption | ((refine Is.lit ?_); decide +kernel) | (refine Is.ofInt _ _)); (intro r nd hr); (try simp only [Act.put, List.setIfInBounds_toArray, List.set_cons_succ, List.set_cons_zero, World.drewN_drewN])) | ((with_reducible refine wpList_fquo (k := ?_) (bx := ?_) (by' := ?_) (X := ?_) (Y := ?_) ?_ ?_ ?_ ?_ ?_ ?_); rotate_left 5; (first | (with_reducible exact wanted_none) | ((with_reducible refine wanted_some ?_); rfl)); (rfl); (rfl); (first | assumption | ((refine Is.lit ?_); decide +kernel) | (refine Is.ofInt _ _)); (first | assumption | ((refine Is.lit ?_); decide +kernel) | (refine Is.ofInt _ _)); (intro r nd hr); (try simp only [Act.put, List.setIfInBounds_toArray, List.set_cons_succ, List.set_cons_zero, World.drewN_drewN]))))
  go_ret
  exact ⟨_, _, rfl, by assumption, by assumption, (by repeat (first | exact Dr.refl _ | apply Dr.drewN))⟩
abbrev quRe (A B C D : Nat) : Nat := fop .quo .f64 (prRe (wid A) (wid B) (wid C) (fneg .f64 (wid D))) (pwF C D)
abbrev quIm (A B C D : Nat) : Nat := fop .quo .f64 (prIm (wid A) (wid B) (wid C) (fneg .f64 (wid D))) (pwF C D)
set_option maxHeartbeats 1000000 in
theorem iQuotient_any (a A b B c C d D : Nat) (ha : Is .f32 a A) (hb : Is .f32 b B) (hc : Is .f32 c C) (hd : Is .f32 d D) (n1 : NoOv (quRe A B C D)) (n2 : NoOv (quIm A B C D)) (w : World) :
    Calls Tryz.prog 13 #[.complex .f32 a b, .complex .f32 c d] w (KRet (nar (quRe A B C D)) (nar (quIm A B C D)) w) := by
  go_enter Tryz.func13, Tryz.ntmps13
  go_wp2_with (first
    | (go_at_call 40; refine (parts_any _ _ _ _ (by assumption) (by assumption) _).mono ?_; rintro e w' ⟨r, s, rfl, hr, hs, nd, rfl⟩)
    | (go_at_call 42; refine (powerOf_any _ _ _ _ hc hd _).mono ?_; rintro e w' ⟨r, rfl, hr, nd, rfl⟩)
    | (go_at_call 41; refine (product_any _ _ _ _ _ _ _ _ (by assumption) (by assumption) (by assumption) (by assumption) _).mono ?_; rintro e w' ⟨r, s, rfl, hr, hs, nd, rfl⟩)
    | ((with_reducible refine wpList_here ?_); (first | ((with_reducible refine wpList_feq (k := ?_) (bx := ?_) (by' := ?_) (X := ?_) (Y := ?_) ?_ ?_ ?_ ?_ ?_ ?_); rotate_left 5; (first | (with_reducible exact wanted_none) | ((with_reducible refine wanted_some ?_); rfl)); (rfl); (rfl); (first | assumption | ((refine Is.lit ?_); decide +kernel) | (refine Is.ofInt _ _)); (first | assumption | ((refine Is.lit ?_); decide +kernel) | (refine Is.ofInt _ _)); (try simp only [Act.put, List.setIfInBounds_toArray, List.set_cons_succ, List.set_cons_zero, World.drewN_drewN])) | ((with_reducible refine wpList_fne (k := ?_) (bx := ?_) (by' := ?_) (X := ?_) (Y := ?_) ?_ ?_ ?_ ?_ ?_ ?_); rotate_left 5; (first | (with_reducible exact wanted_none) | ((with_reducible refine wanted_some ?_); rfl)); (rfl); (rfl); (first | assumption | ((refine Is.lit ?_); decide +kernel) | (refine Is.ofInt _ _)); (first | assumption | ((refine Is.lit ?_); decide +kernel) | (refine Is.ofInt _ _)); (try simp only [Act.put, List.setIfInBounds_toArray, List.set_cons_succ, List.set_cons_zero, World.drewN_drewN])) | ((with_reducible refine wpList_flt (k := ?_) (bx := ?_) (by' := ?_) (X := ?_) (Y := ?_) ?_ ?_ ?_ ?_ ?_ ?_); rotate_left 5; (first | (with_reducible exact wanted_none) | ((with_reducible refine wanted_some ?_); rfl)); (rfl); (rfl); (first | assumption | ((refine Is.lit ?_); decide +kernel) | (refine Is.ofInt _ _)); (first | assumption | ((refine Is.lit ?_); decide +kernel) | (refine Is.ofInt _ _)); (try simp only [Act.put, List.setIfInBounds_toArray, List.set_cons_succ, List.set_cons_zero, World.drewN_drewN])) | ((with_reducible refine wpList_fle (k := ?_) (bx := ?_) (by' := ?_) (X := ?_) (Y := ?_) ?_ ?_ ?_ ?_ ?_ ?_); rotate_left 5; (first | (with_reducible exact wanted_none) | ((with_reducible refine wanted_some ?_); rfl)); (rfl); (rfl); (first | assumption | ((refine Is.lit ?_); decide +kernel) | (refine Is.ofInt _ _)); (first | assumption | ((refine Is.lit ?_); decide +kernel) | (refine Is.ofInt _ _)); (try simp only [Act.put, List.setIfInBounds_toArray, List.set_cons_succ, List.set_cons_zero, World.drewN_drewN])) | ((with_reducible refine wpList_fgt (k := ?_) (bx := ?_) (by' := ?_) (X := ?_) (Y := ?_) ?_ ?_ ?_ ?_ ?_ ?_); rotate_left 5; (first | (with_reducible exact wanted_none) | ((with_reducible refine wanted_some ?_); rfl)); (rfl); (rfl); (first | assumption | ((refine Is.lit ?_); decide +kernel) | (refine Is.ofInt _ _)); (first | assumption | ((refine Is.lit ?_); decide +kernel) | (refine Is.ofInt _ _)); (try simp only [Act.put, List.setIfInBounds_toArray, List.set_cons_succ, List.set_cons_zero, World.drewN_drewN])) | ((with_reducible refine wpList_fge (k := ?_) (bx := ?_) (by' := ?_) (X := ?_) (Y := ?_) ?_ ?_ ?_ ?_ ?_ ?_); rotate_left 5; (first | (with_reducible exact wanted_none) | ((with_reducible refine wanted_some ?_); rfl)); (rfl); (rfl); (first | assumption | ((refine Is.lit ?_); decide +kernel) | (refine Is.ofInt _ _)); (first | assumption | ((refine Is.lit ?_); decide +kernel) | (refine Is.ofInt _ _)); (try simp only [Act.put, List.setIfInBounds_toArray, List.set_cons_succ, List.set_cons_zero, World.drewN_drewN])) | ((with_reducible refine wpList_fadd (k := ?_) (bx := ?_) (by' := ?_) (X := ?_) (Y := ?_) ?_ ?_ ?_ ?_ ?_ ?_); rotate_left 5; (first | (with_reducible exact wanted_none) | ((with_reducible refine wanted_some ?_); rfl)); (rfl); (rfl); (first | assumption | ((refine Is.lit ?_); decide +kernel) | (refine Is.ofInt _ _)); (first | assumption | ((refine Is.lit ?_); decide +kernel) | (refine Is.ofInt _ _)); (intro r nd hr); (try simp only [Act.put, List.setIfInBounds_toArray, List.set_cons_succ, List.set_cons_zero, World.drewN_drewN])) | ((with_reducible refine wpList_fsub (k := ?_) (bx := ?_) (by' := ?_) (X := ?_) (Y := ?_) ?_ ?_ ?_ ?_ ?_ ?_); rotate_left 5; (first | (with_reducible exact wanted_none) | ((with_reducible refine wanted_some ?_); rfl)); (rfl); (rfl); (first | assumption | ((refine Is.lit ?_); decide +kernel) | (refine Is.ofInt _ _)); (first | assumption | ((refine Is.lit ?_); decide +kernel) | (refine Is.ofInt _ _)); (intro r nd hr); (try simp only [Act.put, List.setIfInBounds_toArray, List.set_cons_succ, List.set_cons_zero, World.drewN_drewN])) | ((with_reducible refine wpList_fmul (k := ?_) (bx := ?_) (by' := ?_) (X := ?_) (Y := ?_) ?_ ?_ ?_ ?_ ?_ ?_); rotate_left 5; (first | (with_reducible exact wanted_none) | ((with_reducible refine wanted_some ?_); rfl)); (rfl); (rfl); (first | assumption | ((refine Is.lit ?_); decide +kernel) | (refine Is.ofInt _ _)); (first | assumption | ((refine Is.lit ?_); decide +kernel) | (refine Is.ofInt _ _)); (intro r nd hr); (try simp only [Act.put, List.setIfInBounds_toArray, List.set_cons_succ, List.set_cons_zero, World.drewN_drewN])) | ((with_reducible refine wpList_fquo (k := ?_) (bx := ?_) (by' := ?_) (X := ?_) (Y := ?_) ?_ ?_ ?_ ?_ ?_ ?_); rotate_left 5; (first | (with_reducible exact wanted_none) | ((with_reducible refine wanted_some ?_); rfl)); (rfl); (rfl); (first | assumption | ((refine Is.lit ?_); decide +kernel) | (refine Is.ofInt _ _)); (first | assumption | ((refine Is.lit ?_); decide +kernel) | (refine Is.ofInt _ _)); (intro r nd hr); (try simp only [Act.put, List.setIfInBounds_toArray, List.set_cons_succ, List.set_cons_zero, World.drewN_drewN])) | ((with_reducible refine wpList_widen Tryz.underlying28 Tryz.underlying46 (bx := ?_) (X := ?_) ?_ ?_ ?_ ?_); rotate_left 2; (first | (with_reducible exact wanted_none) | ((with_reducible refine wanted_some ?_); rfl)); (rfl); (first | assumption | ((refine Is.lit ?_); decide +kernel) | (refine Is.ofInt _ _)); (intro r nd hr); (try simp only [Act.put, List.setIfInBounds_toArray, List.set_cons_succ, List.set_cons_zero, World.drewN_drewN])) | ((with_reducible refine wpList_narrow Tryz.underlying46 Tryz.underlying28 (bx := ?_) (X := ?_) ?_ ?_ ?_ ?_ ?_); rotate_left 2; (first | (with_reducible exact wanted_none) | ((with_reducible refine wanted_some ?_); rfl)); (rfl); (first | assumption | ((refine Is.lit ?_); decide +kernel) | (refine Is.ofInt _ _)); assumption; (intro r nd hr); (try simp only [Act.put, List.setIfInBounds_toArray, List.set_cons_succ, List.set_cons_zero, World.drewN_drewN])) | ((with_reducible refine wpList_fneg (k := ?_) (bx := ?_) (X := ?_) ?_ ?_ ?_ ?_); rotate_left 3; (first | (with_reducible exact wanted_none) | ((with_reducible refine wanted_some ?_); rfl)); (rfl); (first | assumption | ((refine Is.lit ?_); decide +kernel) | (refine Is.ofInt _ _)); (intro r hr); (try simp only [Act.put, List.setIfInBounds_toArray, List.set_cons_succ, List.set_cons_zero, World.drewN_drewN])))))
  go_ret
  exact ⟨_, _, rfl, by assumption, by assumption, (by repeat (first | exact Dr.refl _ | apply Dr.drewN))⟩
theorem iNarrowC_any (a A b B : Nat) (ha : Is .f64 a A) (hb : Is .f64 b B) (n1 : NoOv A) (n2 : NoOv B) (w : World) : Calls Tryz.prog 25 #[.complex .f64 a b] w (KRet (nar A) (nar B) w) := by
  go_enter Tryz.func25, Tryz.ntmps25
  go_wp2_with ((with_reducible refine wpList_here ?_); (first | ((with_reducible refine wpList_narrow Tryz.underlying46 Tryz.underlying28 (bx := ?_) (X := ?_) ?_ ?_ ?_ ?_ ?_); rotate_left 2; (first | (with_reducible exact wanted_none) | ((with_reducible refine wanted_some ?_); rfl)); (rfl); (first | assumption | ((refine Is.lit ?_); decide +kernel) | (refine Is.ofInt _ _)); assumption; (intro r nd hr); (try simp only [Act.put, List.setIfInBounds_toArray, List.set_cons_succ, List.set_cons_zero, World.drewN_drewN]))))
  go_ret
  exact ⟨_, _, rfl, by assumption, by assumption, (by repeat (first | exact Dr.refl _ | apply Dr.drewN))⟩
theorem iSameC_same (a b c d A B : Nat) (ha : Is .f32 a A) (hb : Is .f32 b B) (hc : Is .f32 c A) (hd : Is .f32 d B) (w : World) : Calls Tryz.prog 24 #[.complex .f32 a b, .complex .f32 c d] w (VRet (.bool true) w) := by
  go_enter Tryz.func24, Tryz.ntmps24
  go_wp2_with (go_at_call 60; refine (iSameNumber_any _ _ _ _ (by assumption) (by assumption) _).mono ?_; rintro e w' ⟨rfl, nd, rfl⟩; simp only [beq_self_eq_true])
  go_ret
  exact ⟨rfl, (by repeat (first | exact Dr.refl _ | apply Dr.drewN))⟩
theorem l01CSame_same (a b c d A B : Nat) (ha : Is .f32 a A) (hb : Is .f32 b B) (hc : Is .f32 c A) (hd : Is .f32 d B) (w : World) : Calls Tryz.prog 80 #[.complex .f32 a b, .complex .f32 c d] w (fun e w' => e = .returned (.bool true) ∧ w = w') := by
  go_enter Tryz.func80, Tryz.ntmps80
  go_wp2_with (go_at_call 43; refine (l01Same_any _ _ _ _ (by assumption) (by assumption) _).mono ?_; rintro e w' ⟨rfl, rfl⟩; simp only [beq_self_eq_true])
  go_ret
  exact ⟨rfl, rfl⟩
theorem sSameC_same (a b c d A B : Nat) (ha : Is .f32 a A) (hb : Is .f32 b B) (hc : Is .f32 c A) (hd : Is .f32 d B) (w : World) : Calls Tryz.prog 59 #[.complex .f32 a b, .complex .f32 c d] w (fun e w' => e = .returned (.bool true) ∧ w = w') := by
  go_enter Tryz.func59, Tryz.ntmps59
  go_wp2_with (go_at_call 80; refine (l01CSame_same _ _ _ _ _ _ ha hb hc hd _).mono ?_; rintro e w' ⟨rfl, rfl⟩)
  go_ret
  exact ⟨rfl, rfl⟩
theorem iFiniteC_any (r s X Y : Nat) (hr : Is .f32 r X) (hs : Is .f32 s Y) (w : World) : Calls Tryz.prog 26 #[.complex .f32 r s] w (VRet (.bool (fin32B X && fin32B Y)) w) := by
  cases hX : fin32B X with
  | false =>
    go_enter Tryz.func26, Tryz.ntmps26
    go_wp2_with (go_at_call 61; refine (iIsFinite_any _ _ hr _).mono ?_; rintro e w' ⟨rfl, nd, rfl⟩; simp only [hX])
    go_ret
    exact ⟨rfl, (by repeat (first | exact Dr.refl _ | apply Dr.drewN))⟩
  | true =>
    go_enter Tryz.func26, Tryz.ntmps26
    go_wp2_with (go_at_call 61; refine (iIsFinite_any _ _ (by assumption) _).mono ?_; rintro e w' ⟨rfl, nd, rfl⟩; try simp only [hX])
    go_ret
    exact ⟨ret_bool (Bool.true_and _).symm, (by repeat (first | exact Dr.refl _ | apply Dr.drewN))⟩
end Go.Proofs.YtianaalokclklaaGreatDoor
end

/-
  CONTRACTS: the text of complex numbers, read back; rows of complex numbers compared.
-/
section
set_option linter.unusedSimpArgs false
set_option linter.unusedVariables false
namespace Go.Proofs.YtianaalokclklaaGreatDoor
open Go.RowKit Go.Fl

abbrev hexc (xs ys : List Nat) : Nat → List UInt8 := fun i => hex8 (cn .f32 (xs.getD i 0)) ++ hex8 (cn .f32 (ys.getD i 0))
theorem hexc_len (xs ys : List Nat) (i : Nat) : (hexc xs ys i).length = 16 := by
  show (hex8 _ ++ hex8 _).length = 16
  rw [List.length_append]
  have h1 : (hex8 (cn .f32 (xs.getD i 0))).length = 8 := hexK_len 8 _
  have h2 : (hex8 (cn .f32 (ys.getD i 0))).length = 8 := hexK_len 8 _
  omega
theorem hexc_lo (xs ys : List Nat) (i : Nat) : lo8 (hexc xs ys i) = hex8 (cn .f32 (xs.getD i 0)) := List.take_left' (hexK_len 8 _)
theorem hexc_hi (xs ys : List Nat) (i : Nat) : hi8 (hexc xs ys i) = hex8 (cn .f32 (ys.getD i 0)) := List.drop_left' (hexK_len 8 _)
theorem readC_back (xs ys : List Nat) (n : Nat) (hn : n ≤ 256) (hw : ∀ i, i < n → xs.getD i 0 < 4294967296 ∧ ys.getD i 0 < 4294967296) :
    rcB (txt (hexc xs ys) n) = true ∧ rcN (txt (hexc xs ys) n) = n ∧ ∀ j, j < n → reX (txt (hexc xs ys) n) j = cn .f32 (xs.getD j 0) ∧ imX (txt (hexc xs ys) n) j = cn .f32 (ys.getD j 0) := by
  by_cases h0 : n = 0
  · subst h0
    refine ⟨(show rcB [110, 111, 110, 101] = true by decide), (show rcN [110, 111, 110, 101] = 0 by decide), fun j hj => absurd hj (by omega)⟩
  · obtain ⟨h1, h2, h3⟩ := pieces_txt (hexc xs ys) (fun i b hb => by
      rcases List.mem_append.1 hb with g | g
      · exact hexK_44 8 _ b g
      · exact hexK_44 8 _ b g) (fun i => by rw [hexc_len]; omega) n (by omega)
    have hx : ∀ i, i < n → cn .f32 (xs.getD i 0) < 4294967296 ∧ cn .f32 (ys.getD i 0) < 4294967296 := fun i hi => ⟨is32_lt (is_word (hw i hi).1), is32_lt (is_word (hw i hi).2)⟩
    have hB : rcB (txt (hexc xs ys) n) = true := by
      unfold rcB
      rw [h3, h1, decide_eq_true hn, Bool.false_or, Bool.true_and]
      refine allB_iff.2 fun i hi => ?_
      rw [h2 i hi, hexC_of (hexc_len xs ys i), hexc_lo, hexc_hi, Bool.and_eq_true]
      exact ⟨hexB_iff.2 ⟨_, (hx i hi).1, cn_cn .f32 _, rfl⟩, hexB_iff.2 ⟨_, (hx i hi).2, cn_cn .f32 _, rfl⟩⟩
    refine ⟨hB, ?_, fun j hj => ?_⟩
    · unfold rcN; rw [hB, h3, h1]; rfl
    · show valH (lo8 (pieceN _ j)) = _ ∧ valH (hi8 (pieceN _ j)) = _
      rw [h2 j hj, hexc_lo, hexc_hi]
      exact ⟨valH_hex8 (hx j hj).1, valH_hex8 (hx j hj).2⟩
set_option maxRecDepth 100000 in
set_option maxHeartbeats 2000000 in
theorem iComplexText_any (w : World) (ao : Option Addr) (n c : Nat) (xs ys : List Nat) (hA : VRow w ao n (cvals xs ys)) (hw : ∀ i, i < n → xs.getD i 0 < 4294967296 ∧ ys.getD i 0 < 4294967296) (hm : n ≤ 256) (ht : Tz w) :
    Calls Tryz.prog 17 #[.slice ao n c] w (TRet true (txt (hexc xs ys) n) w) := by
  have ht' := Lib.hid ht
  have hA' := Lib.hid hA
  have hw' := Lib.hid hw
  clear hA ht hw
  have hlen := Lib.hid (tx_len (hexc xs ys) 16 n (fun i hi => Nat.le_of_eq (hexc_len xs ys i)))
  obtain ⟨i0, hi0, hz0, hz1, hz2⟩ := info_parts infoStr
  go_enter Tryz.func17, Tryz.ntmps17
  go_wp2_with fail
  go_loopw [4, 13] (fun v i wr => ∃ k : Nat, k ≤ n ∧ i = .int .i64 k ∧ Hid (LRow w wr v (hexc xs ys) k)) (fun _ i _ => n - (intOf i).toNat)
  case atStart => exact ⟨0, Nat.zero_le _, rfl, Lib.hid (LRow.start w w _ (Bel.refl _))⟩
  case round =>
    obtain ⟨k, hk, rfl, hS⟩ := hrel
    by_cases hlt : k < n
    · obtain ⟨b, off, rfl, hb, hcell⟩ := hA'.out.at0 (by omega)
      obtain ⟨g, cap, rfl, _, hbel⟩ := hS.out
      have h1 := (hbel.cell (p := ⟨b, off + k, none⟩) hb).trans (hcell k hlt)
      unfold cvals at h1
      clear hcell
      obtain ⟨hw1, hw2⟩ := hw'.out k hlt
      have ht1 := Lib.hid (tz_bel ht'.out hbel)
      clear hbel
      obtain ⟨Z, hZ⟩ : ∃ Z, Z = xs.getD k 0 := ⟨_, rfl⟩
      obtain ⟨Y, hY⟩ : ∃ Y, Y = ys.getD k 0 := ⟨_, rfl⟩
      rw [← hZ] at h1 hw1
      rw [← hY] at h1 hw2
      have hi1 := Lib.hid (is_word hw1)
      have hi2 := Lib.hid (is_word hw2)
      obtain ⟨D1, hD1⟩ : ∃ D, D = hex8 (cn .f32 Z) := ⟨_, rfl⟩
      obtain ⟨D2, hD2⟩ : ∃ D, D = hex8 (cn .f32 Y) := ⟨_, rfl⟩
      have hl1 : D1.length = 8 := by rw [hD1]; exact hexK_len 8 _
      have hl2 : D2.length = 8 := by rw [hD2]; exact hexK_len 8 _
      have hcc := Lib.hid (show D1 ++ D2 = hexc xs ys k by rw [hD1, hD2, hZ, hY])
      have hs1 := size_at D1
      have hs2 := size_at D2
      rw [hl1] at hs1
      rw [hl2] at hs2
      have hadd := fun w => add_lists (P := Tryz.prog) D1 D2 (by omega) (by omega) w
      replace hD1 := Lib.hid hD1
      replace hD2 := Lib.hid hD2
      replace hZ := Lib.hid hZ
      replace hY := Lib.hid hY
      clear hw1 hw2
      go_wp2_with fail
      refine (digits_any _ _ _ hi1.out ht1.out).mono ?_
      rintro e w2 ⟨rfl, hB2⟩
      rw [← hD1.out]
      replace hS := Lib.hid (hS.out.bel hB2)
      replace ht1 := Lib.hid (tz_bel ht1.out hB2)
      clear hB2
      go_wp2_with fail
      refine (digits_any _ _ _ hi2.out ht1.out).mono ?_
      rintro e w3 ⟨rfl, hB2⟩
      rw [← hD2.out]
      replace hS := Lib.hid (hS.out.bel hB2)
      clear hB2
      obtain ⟨_, _, hvv, hown, hbel⟩ := hS.out
      cases hvv
      have hbs := hbel.size
      go_wp2_with (at_builtin; refine wpList_app1 rfl _ _ 69 rfl w.heap.size 9 i0 _ 16 Tryz.underlying69 hi0 hz0 hz1 hz2 rfl (.slice (some ⟨g, 0, none⟩) k cap) k _ rfl hown rfl rfl (by omega) (by unfold maxLen; omega) hbs ?_; intro v2 w4 hown2 hgrow)
      rw [hcc.out] at hown2
      have hN := Lib.hid (hS.out.next hown2 hgrow)
      clear hown2 hgrow
      go_wp2_with fail
      refine ⟨⟨k + 1, by omega, by simp, hN⟩, ?_⟩
      show n - (((k : Nat) : Int) + 1).toNat < n - ((k : Nat) : Int).toNat
      omega
    · obtain rfl : k = n := by omega
      obtain ⟨g, cap, rfl, hown, hbel⟩ := hS.out
      obtain ⟨hcc, hgl, hkc⟩ := LRow.cells hown
      have hbel' := Lib.hid hbel
      have hcc' := Lib.hid hcc
      have hll := hlen.out k (Nat.le_refl _)
      have hgl' : g < wr.heap.size := by
        rcases hown.2 with ⟨e1, _⟩ | ⟨g2, cap2, cur, e1, _, e3, _⟩
        · cases e1
        · cases e1; exact (Array.getElem?_eq_some_iff.1 e3).1
      clear hcc hgl hbel hown
      go_wp2_with fail
      refine (joined_any _ g cap k (hexc xs ys) hcc'.out hgl' (by omega) hkc (by omega)).mono ?_
      rintro e w3 ⟨rfl, hB3⟩
      have hB4 := Lib.hid (hbel'.out.trans hB3)
      clear hB3
      go_wp2_with fail
      refine bodyPost_ret (v := .tuple #[.string ⟨(txt (hexc xs ys) k).toArray⟩, .bool true]) (by simp [results, Tryz.results17, go_sem]) rfl ?_
      exact ⟨rfl, hB4.out⟩
set_option maxHeartbeats 1000000 in
theorem b10Same_any (w : World) (ao bo : Option Addr) (n c d : Nat) (xs ys us vs : List Nat) (X Y : Nat → Nat) (hA : VRow w ao n (cvals xs ys)) (hB : VRow w bo n (cvals us vs)) (hm : n ≤ 1048576) (h1 : CSet n xs ys X Y) (h2 : CSet n us vs X Y) :
    Calls Tryz.prog 23 #[.slice ao n c, .slice bo n d] w (BRet (.bool true) w) := by
  have hA' := Lib.hid hA
  have hB' := Lib.hid hB
  have h1' := Lib.hid h1
  have h2' := Lib.hid h2
  clear hA hB h1 h2
  go_enter Tryz.func23, Tryz.ntmps23
  go_wp2
  go_loopw [13] (fun i wr => ∃ k : Nat, k ≤ n ∧ i = .int .i64 k ∧ Hid (Bel w wr)) (fun i _ => n - (intOf i).toNat)
  case atStart => exact ⟨0, Nat.zero_le _, rfl, Lib.hid (Bel.refl _)⟩
  case round =>
    obtain ⟨k, hk, rfl, hbw⟩ := hrel
    by_cases hlt : k < n
    · obtain ⟨b, off, rfl, hb, hcell⟩ := (hA'.out.bel hbw.out).at0 (by omega)
      obtain ⟨b', off', rfl, hb', hcell'⟩ := (hB'.out.bel hbw.out).at0 (by omega)
      obtain ⟨i1, i2⟩ := h1'.out k hlt
      obtain ⟨i3, i4⟩ := h2'.out k hlt
      have c1 := Lib.hid (hcell k hlt)
      have c2 := Lib.hid (hcell' k hlt)
      unfold cvals at c1 c2
      clear hcell hcell'
      obtain ⟨p1, e1⟩ : ∃ x, x = xs.getD k 0 := ⟨_, rfl⟩
      obtain ⟨p2, e2⟩ : ∃ x, x = ys.getD k 0 := ⟨_, rfl⟩
      obtain ⟨p3, e3⟩ : ∃ x, x = us.getD k 0 := ⟨_, rfl⟩
      obtain ⟨p4, e4⟩ : ∃ x, x = vs.getD k 0 := ⟨_, rfl⟩
      rw [← e1] at i1 c1
      rw [← e2] at i2 c1
      rw [← e3] at i3 c2
      rw [← e4] at i4 c2
      clear e1 e2 e3 e4
      go_wp2_with fail
      (refine Rk.region_K (Le := Bel) [0, 1, 2, 3, 4, 5, 6, 7, 8, 9] [] Rk.good_bel (by kernel_rfl) (by kernel_rfl) (by kernel_rfl) (by kernel_rfl) ?_; (try simp only [Rk.pick, List.getElem?_cons_succ, List.getElem?_cons_zero, Option.toList_some, List.cons_append, List.nil_append, List.map_cons, List.map_nil]))
      repeat (first | ((with_reducible refine Rk.wpR_move Rk.good_bel (S := ?_) ?_ ?_ ?_ ?_); (first | exact Rk.yes_none | exact Rk.yes_some rfl rfl); rotate_left 2; (simp only [Rk.slotS, List.getD_cons_succ, List.getD_cons_zero]; rfl); rotate_left 1; (first | exact Rk.mon_is1 _ | exact Rk.mon_isF _ _ | assumption); (try simp only [Rk.upd, List.set_cons_succ, List.set_cons_zero])) | ((with_reducible refine Rk.wpR_assign Rk.good_bel (S := ?_) ?_ ?_ ?_ ?_); (first | exact Rk.yes_none | exact Rk.yes_some rfl rfl); rotate_left 2; (simp only [Rk.slotS, List.getD_cons_succ, List.getD_cons_zero]; rfl); rotate_left 1; (first | exact Rk.mon_is1 _ | exact Rk.mon_isF _ _ | assumption); (try simp only [Rk.upd, List.set_cons_succ, List.set_cons_zero])) | ((with_reducible refine Rk.wpR_skip (d := ?_) (c := ?_) ?_ ?_ ?_ ?_); rotate_left 2; rfl; rfl; rfl; (try simp only [Rk.upd, List.set_cons_succ, List.set_cons_zero])) | ((with_reducible refine Rk.wpR_pickT Rk.good_bel (S := ?_) ?_ ?_ ?_ ?_ ?_); (first | exact Rk.yes_none | exact Rk.yes_some rfl rfl); rotate_left 2; rfl; (simp only [Rk.slotS, List.getD_cons_succ, List.getD_cons_zero]; rfl); rotate_left 1; (first | exact Rk.mon_is1 _ | exact Rk.mon_isF _ _ | assumption); (try simp only [Rk.upd, List.set_cons_succ, List.set_cons_zero])) | ((with_reducible refine Rk.wpR_pickF Rk.good_bel (S := ?_) ?_ ?_ ?_ ?_ ?_); (first | exact Rk.yes_none | exact Rk.yes_some rfl rfl); rotate_left 2; rfl; (simp only [Rk.slotS, List.getD_cons_succ, List.getD_cons_zero]; rfl); rotate_left 1; (first | exact Rk.mon_is1 _ | exact Rk.mon_isF _ _ | assumption); (try simp only [Rk.upd, List.set_cons_succ, List.set_cons_zero])) | ((with_reducible refine Rk.wpR_widen Rk.good_bel Tryz.underlying28 Tryz.underlying46 (X := ?_) (S := ?_) ?_ ?_ ?_ ?_); rotate_left 2; (first | exact Rk.yes_none | exact Rk.yes_some rfl rfl); (simp only [Rk.slotS, List.getD_cons_succ, List.getD_cons_zero]; rfl); (first | exact Rk.subF_is _ _ | (refine Rk.subF_eq ?_; (first | assumption | ((refine Is.lit ?_); decide +kernel) | (refine Is.ofInt _ _)))); (try simp only [Rk.upd, List.set_cons_succ, List.set_cons_zero])) | ((with_reducible refine Rk.wpR_fadd Rk.good_bel (k := ?_) (X := ?_) (Y := ?_) (S := ?_) (T := ?_) ?_ ?_ ?_ ?_ ?_ ?_); rotate_left 5; (first | exact Rk.yes_none | exact Rk.yes_some rfl rfl); (simp only [Rk.slotS, List.getD_cons_succ, List.getD_cons_zero]; rfl); (simp only [Rk.slotS, List.getD_cons_succ, List.getD_cons_zero]; rfl); (first | exact Rk.subF_is _ _ | (refine Rk.subF_eq ?_; (first | assumption | ((refine Is.lit ?_); decide +kernel) | (refine Is.ofInt _ _)))); (first | exact Rk.subF_is _ _ | (refine Rk.subF_eq ?_; (first | assumption | ((refine Is.lit ?_); decide +kernel) | (refine Is.ofInt _ _)))); (try simp only [Rk.upd, List.set_cons_succ, List.set_cons_zero])) | ((with_reducible refine Rk.wpR_fsub Rk.good_bel (k := ?_) (X := ?_) (Y := ?_) (S := ?_) (T := ?_) ?_ ?_ ?_ ?_ ?_ ?_); rotate_left 5; (first | exact Rk.yes_none | exact Rk.yes_some rfl rfl); (simp only [Rk.slotS, List.getD_cons_succ, List.getD_cons_zero]; rfl); (simp only [Rk.slotS, List.getD_cons_succ, List.getD_cons_zero]; rfl); (first | exact Rk.subF_is _ _ | (refine Rk.subF_eq ?_; (first | assumption | ((refine Is.lit ?_); decide +kernel) | (refine Is.ofInt _ _)))); (first | exact Rk.subF_is _ _ | (refine Rk.subF_eq ?_; (first | assumption | ((refine Is.lit ?_); decide +kernel) | (refine Is.ofInt _ _)))); (try simp only [Rk.upd, List.set_cons_succ, List.set_cons_zero])) | ((with_reducible refine Rk.wpR_fmul Rk.good_bel (k := ?_) (X := ?_) (Y := ?_) (S := ?_) (T := ?_) ?_ ?_ ?_ ?_ ?_ ?_); rotate_left 5; (first | exact Rk.yes_none | exact Rk.yes_some rfl rfl); (simp only [Rk.slotS, List.getD_cons_succ, List.getD_cons_zero]; rfl); (simp only [Rk.slotS, List.getD_cons_succ, List.getD_cons_zero]; rfl); (first | exact Rk.subF_is _ _ | (refine Rk.subF_eq ?_; (first | assumption | ((refine Is.lit ?_); decide +kernel) | (refine Is.ofInt _ _)))); (first | exact Rk.subF_is _ _ | (refine Rk.subF_eq ?_; (first | assumption | ((refine Is.lit ?_); decide +kernel) | (refine Is.ofInt _ _)))); (try simp only [Rk.upd, List.set_cons_succ, List.set_cons_zero])) | ((with_reducible refine Rk.wpR_fquo Rk.good_bel (k := ?_) (X := ?_) (Y := ?_) (S := ?_) (T := ?_) ?_ ?_ ?_ ?_ ?_ ?_); rotate_left 5; (first | exact Rk.yes_none | exact Rk.yes_some rfl rfl); (simp only [Rk.slotS, List.getD_cons_succ, List.getD_cons_zero]; rfl); (simp only [Rk.slotS, List.getD_cons_succ, List.getD_cons_zero]; rfl); (first | exact Rk.subF_is _ _ | (refine Rk.subF_eq ?_; (first | assumption | ((refine Is.lit ?_); decide +kernel) | (refine Is.ofInt _ _)))); (first | exact Rk.subF_is _ _ | (refine Rk.subF_eq ?_; (first | assumption | ((refine Is.lit ?_); decide +kernel) | (refine Is.ofInt _ _)))); (try simp only [Rk.upd, List.set_cons_succ, List.set_cons_zero])) | ((with_reducible refine Rk.wpR_feq Rk.good_bel (k := ?_) (X := ?_) (Y := ?_) (S := ?_) (T := ?_) ?_ ?_ ?_ ?_ ?_ ?_); rotate_left 5; (first | exact Rk.yes_none | exact Rk.yes_some rfl rfl); (simp only [Rk.slotS, List.getD_cons_succ, List.getD_cons_zero]; rfl); (simp only [Rk.slotS, List.getD_cons_succ, List.getD_cons_zero]; rfl); (first | exact Rk.subF_is _ _ | (refine Rk.subF_eq ?_; (first | assumption | ((refine Is.lit ?_); decide +kernel) | (refine Is.ofInt _ _)))); (first | exact Rk.subF_is _ _ | (refine Rk.subF_eq ?_; (first | assumption | ((refine Is.lit ?_); decide +kernel) | (refine Is.ofInt _ _)))); (try simp only [Rk.upd, List.set_cons_succ, List.set_cons_zero])) | ((with_reducible refine Rk.wpR_fne Rk.good_bel (k := ?_) (X := ?_) (Y := ?_) (S := ?_) (T := ?_) ?_ ?_ ?_ ?_ ?_ ?_); rotate_left 5; (first | exact Rk.yes_none | exact Rk.yes_some rfl rfl); (simp only [Rk.slotS, List.getD_cons_succ, List.getD_cons_zero]; rfl); (simp only [Rk.slotS, List.getD_cons_succ, List.getD_cons_zero]; rfl); (first | exact Rk.subF_is _ _ | (refine Rk.subF_eq ?_; (first | assumption | ((refine Is.lit ?_); decide +kernel) | (refine Is.ofInt _ _)))); (first | exact Rk.subF_is _ _ | (refine Rk.subF_eq ?_; (first | assumption | ((refine Is.lit ?_); decide +kernel) | (refine Is.ofInt _ _)))); (try simp only [Rk.upd, List.set_cons_succ, List.set_cons_zero])) | ((with_reducible refine Rk.wpR_flt Rk.good_bel (k := ?_) (X := ?_) (Y := ?_) (S := ?_) (T := ?_) ?_ ?_ ?_ ?_ ?_ ?_); rotate_left 5; (first | exact Rk.yes_none | exact Rk.yes_some rfl rfl); (simp only [Rk.slotS, List.getD_cons_succ, List.getD_cons_zero]; rfl); (simp only [Rk.slotS, List.getD_cons_succ, List.getD_cons_zero]; rfl); (first | exact Rk.subF_is _ _ | (refine Rk.subF_eq ?_; (first | assumption | ((refine Is.lit ?_); decide +kernel) | (refine Is.ofInt _ _)))); (first | exact Rk.subF_is _ _ | (refine Rk.subF_eq ?_; (first | assumption | ((refine Is.lit ?_); decide +kernel) | (refine Is.ofInt _ _)))); (try simp only [Rk.upd, List.set_cons_succ, List.set_cons_zero])) | ((with_reducible refine Rk.wpR_fgt Rk.good_bel (k := ?_) (X := ?_) (Y := ?_) (S := ?_) (T := ?_) ?_ ?_ ?_ ?_ ?_ ?_); rotate_left 5; (first | exact Rk.yes_none | exact Rk.yes_some rfl rfl); (simp only [Rk.slotS, List.getD_cons_succ, List.getD_cons_zero]; rfl); (simp only [Rk.slotS, List.getD_cons_succ, List.getD_cons_zero]; rfl); (first | exact Rk.subF_is _ _ | (refine Rk.subF_eq ?_; (first | assumption | ((refine Is.lit ?_); decide +kernel) | (refine Is.ofInt _ _)))); (first | exact Rk.subF_is _ _ | (refine Rk.subF_eq ?_; (first | assumption | ((refine Is.lit ?_); decide +kernel) | (refine Is.ofInt _ _)))); (try simp only [Rk.upd, List.set_cons_succ, List.set_cons_zero])) | ((with_reducible refine Rk.wpR_fge Rk.good_bel (k := ?_) (X := ?_) (Y := ?_) (S := ?_) (T := ?_) ?_ ?_ ?_ ?_ ?_ ?_); rotate_left 5; (first | exact Rk.yes_none | exact Rk.yes_some rfl rfl); (simp only [Rk.slotS, List.getD_cons_succ, List.getD_cons_zero]; rfl); (simp only [Rk.slotS, List.getD_cons_succ, List.getD_cons_zero]; rfl); (first | exact Rk.subF_is _ _ | (refine Rk.subF_eq ?_; (first | assumption | ((refine Is.lit ?_); decide +kernel) | (refine Is.ofInt _ _)))); (first | exact Rk.subF_is _ _ | (refine Rk.subF_eq ?_; (first | assumption | ((refine Is.lit ?_); decide +kernel) | (refine Is.ofInt _ _)))); (try simp only [Rk.upd, List.set_cons_succ, List.set_cons_zero])) | ((with_reducible refine Rk.wpR_fle Rk.good_bel (k := ?_) (X := ?_) (Y := ?_) (S := ?_) (T := ?_) ?_ ?_ ?_ ?_ ?_ ?_); rotate_left 5; (first | exact Rk.yes_none | exact Rk.yes_some rfl rfl); (simp only [Rk.slotS, List.getD_cons_succ, List.getD_cons_zero]; rfl); (simp only [Rk.slotS, List.getD_cons_succ, List.getD_cons_zero]; rfl); (first | exact Rk.subF_is _ _ | (refine Rk.subF_eq ?_; (first | assumption | ((refine Is.lit ?_); decide +kernel) | (refine Is.ofInt _ _)))); (first | exact Rk.subF_is _ _ | (refine Rk.subF_eq ?_; (first | assumption | ((refine Is.lit ?_); decide +kernel) | (refine Is.ofInt _ _)))); (try simp only [Rk.upd, List.set_cons_succ, List.set_cons_zero])) | ((with_reducible refine Rk.wpR_indexAddr Rk.good_bel (v := ?_) (v' := ?_) (u := ?_) ?_ ?_ ?_ ?_ ?_); rotate_left 3; (first | exact Rk.yes_none | exact Rk.yes_some rfl rfl); (simp only [Rk.slotS, List.getD_cons_succ, List.getD_cons_zero]; rfl); (simp only [Rk.slotS, List.getD_cons_succ, List.getD_cons_zero]; rfl); (intro ρ w' hw hK1 hK2; go_simp; rfl); (try simp only [Rk.upd, List.set_cons_succ, List.set_cons_zero])) | ((with_reducible refine Rk.wpR_binOp Rk.good_bel (v := ?_) (v' := ?_) (u := ?_) ?_ ?_ ?_ ?_ ?_); rotate_left 3; (first | exact Rk.yes_none | exact Rk.yes_some rfl rfl); (simp only [Rk.slotS, List.getD_cons_succ, List.getD_cons_zero]; rfl); (simp only [Rk.slotS, List.getD_cons_succ, List.getD_cons_zero]; rfl); (intro ρ w' hw hK1 hK2; go_simp; rfl); (try simp only [Rk.upd, List.set_cons_succ, List.set_cons_zero])) | ((with_reducible refine Rk.wpR_load Rk.good_bel (v := ?_) (u := ?_) ?_ ?_ ?_ ?_); rotate_left 2; (first | exact Rk.yes_none | exact Rk.yes_some rfl rfl); (simp only [Rk.slotS, List.getD_cons_succ, List.getD_cons_zero]; rfl); (intro ρ w' hw hK1; have c1 := (hw.cell (p := ⟨b, off + k, none⟩) hb).trans c1.out; have c2 := (hw.cell (p := ⟨b', off' + k, none⟩) hb').trans c2.out; go_simp; rfl); (try simp only [Rk.upd, List.set_cons_succ, List.set_cons_zero])) | ((with_reducible refine Rk.wpR_unOp Rk.good_bel (v := ?_) (u := ?_) ?_ ?_ ?_ ?_); rotate_left 2; (first | exact Rk.yes_none | exact Rk.yes_some rfl rfl); (simp only [Rk.slotS, List.getD_cons_succ, List.getD_cons_zero]; rfl); (intro ρ w' hw hK1; go_simp; rfl); (try simp only [Rk.upd, List.set_cons_succ, List.set_cons_zero])) | ((with_reducible refine Rk.wpR_convert Rk.good_bel (v := ?_) (u := ?_) ?_ ?_ ?_ ?_); rotate_left 2; (first | exact Rk.yes_none | exact Rk.yes_some rfl rfl); (simp only [Rk.slotS, List.getD_cons_succ, List.getD_cons_zero]; rfl); (intro ρ w' hw hK1; go_simp; rfl); (try simp only [Rk.upd, List.set_cons_succ, List.set_cons_zero])) | ((with_reducible refine Rk.wpR_field Rk.good_bel (v := ?_) (u := ?_) ?_ ?_ ?_ ?_); rotate_left 2; (first | exact Rk.yes_none | exact Rk.yes_some rfl rfl); (simp only [Rk.slotS, List.getD_cons_succ, List.getD_cons_zero]; rfl); (intro ρ w' hw hK1; go_simp; rfl); (try simp only [Rk.upd, List.set_cons_succ, List.set_cons_zero])) | ((with_reducible refine Rk.wpR_fieldAddr Rk.good_bel (v := ?_) (u := ?_) ?_ ?_ ?_ ?_); rotate_left 2; (first | exact Rk.yes_none | exact Rk.yes_some rfl rfl); (simp only [Rk.slotS, List.getD_cons_succ, List.getD_cons_zero]; rfl); (intro ρ w' hw hK1; go_simp; rfl); (try simp only [Rk.upd, List.set_cons_succ, List.set_cons_zero])) | ((with_reducible refine Rk.wpR_nilCheck Rk.good_bel (v := ?_) (u := ?_) ?_ ?_ ?_ ?_); rotate_left 2; (first | exact Rk.yes_none | exact Rk.yes_some rfl rfl); (simp only [Rk.slotS, List.getD_cons_succ, List.getD_cons_zero]; rfl); (intro ρ w' hw hK1; go_simp; rfl); (try simp only [Rk.upd, List.set_cons_succ, List.set_cons_zero])) | ((with_reducible refine Rk.wpR_builtin1 Rk.good_bel (v := ?_) (u := ?_) ?_ ?_ ?_ ?_); rotate_left 2; (first | exact Rk.yes_none | exact Rk.yes_some rfl rfl); (simp only [Rk.slotS, List.getD_cons_succ, List.getD_cons_zero]; rfl); (intro ρ w' hw hK1; go_simp; rfl); (try simp only [Rk.upd, List.set_cons_succ, List.set_cons_zero])) | ((with_reducible refine Rk.wpR_extract Rk.good_bel (v := ?_) (u := ?_) ?_ ?_ ?_ ?_); rotate_left 2; (first | exact Rk.yes_none | exact Rk.yes_some rfl rfl); (simp only [Rk.slotS, List.getD_cons_succ, List.getD_cons_zero]; rfl); (intro ρ w' hw hK1; go_simp; rfl); (try simp only [Rk.upd, List.set_cons_succ, List.set_cons_zero])))
      (refine Rk.wpR_call2 Rk.good_bel (S := ?_) (S2 := ?_) (V := Rk.Is1 (.bool true)) (Rg.enters Tryz.func59 (by kernel_rfl) (by kernel_rfl)) ?_ ?_ ?_ ?_ ?_ ?_; rotate_left 2; (first | exact Rk.yes_none | exact Rk.yes_some rfl rfl); (simp only [Rk.slotS, List.getD_cons_succ, List.getD_cons_zero]; rfl); (simp only [Rk.slotS, List.getD_cons_succ, List.getD_cons_zero]; rfl); rotate_left 2; (try simp only [Rk.upd, List.set_cons_succ, List.set_cons_zero]); rotate_right 2)
      · exact Rk.mon_is1 _
      · rintro u v w' hw rfl rfl
        exact cg_same (sSameC_same _ _ _ _ _ _ i1 i2 i3 i4 w')
      repeat (first | ((with_reducible refine Rk.wpR_move Rk.good_bel (S := ?_) ?_ ?_ ?_ ?_); (first | exact Rk.yes_none | exact Rk.yes_some rfl rfl); rotate_left 2; (simp only [Rk.slotS, List.getD_cons_succ, List.getD_cons_zero]; rfl); rotate_left 1; (first | exact Rk.mon_is1 _ | exact Rk.mon_isF _ _ | assumption); (try simp only [Rk.upd, List.set_cons_succ, List.set_cons_zero])) | ((with_reducible refine Rk.wpR_assign Rk.good_bel (S := ?_) ?_ ?_ ?_ ?_); (first | exact Rk.yes_none | exact Rk.yes_some rfl rfl); rotate_left 2; (simp only [Rk.slotS, List.getD_cons_succ, List.getD_cons_zero]; rfl); rotate_left 1; (first | exact Rk.mon_is1 _ | exact Rk.mon_isF _ _ | assumption); (try simp only [Rk.upd, List.set_cons_succ, List.set_cons_zero])) | ((with_reducible refine Rk.wpR_skip (d := ?_) (c := ?_) ?_ ?_ ?_ ?_); rotate_left 2; rfl; rfl; rfl; (try simp only [Rk.upd, List.set_cons_succ, List.set_cons_zero])) | ((with_reducible refine Rk.wpR_pickT Rk.good_bel (S := ?_) ?_ ?_ ?_ ?_ ?_); (first | exact Rk.yes_none | exact Rk.yes_some rfl rfl); rotate_left 2; rfl; (simp only [Rk.slotS, List.getD_cons_succ, List.getD_cons_zero]; rfl); rotate_left 1; (first | exact Rk.mon_is1 _ | exact Rk.mon_isF _ _ | assumption); (try simp only [Rk.upd, List.set_cons_succ, List.set_cons_zero])) | ((with_reducible refine Rk.wpR_pickF Rk.good_bel (S := ?_) ?_ ?_ ?_ ?_ ?_); (first | exact Rk.yes_none | exact Rk.yes_some rfl rfl); rotate_left 2; rfl; (simp only [Rk.slotS, List.getD_cons_succ, List.getD_cons_zero]; rfl); rotate_left 1; (first | exact Rk.mon_is1 _ | exact Rk.mon_isF _ _ | assumption); (try simp only [Rk.upd, List.set_cons_succ, List.set_cons_zero])) | ((with_reducible refine Rk.wpR_widen Rk.good_bel Tryz.underlying28 Tryz.underlying46 (X := ?_) (S := ?_) ?_ ?_ ?_ ?_); rotate_left 2; (first | exact Rk.yes_none | exact Rk.yes_some rfl rfl); (simp only [Rk.slotS, List.getD_cons_succ, List.getD_cons_zero]; rfl); (first | exact Rk.subF_is _ _ | (refine Rk.subF_eq ?_; (first | assumption | ((refine Is.lit ?_); decide +kernel) | (refine Is.ofInt _ _)))); (try simp only [Rk.upd, List.set_cons_succ, List.set_cons_zero])) | ((with_reducible refine Rk.wpR_fadd Rk.good_bel (k := ?_) (X := ?_) (Y := ?_) (S := ?_) (T := ?_) ?_ ?_ ?_ ?_ ?_ ?_); rotate_left 5; (first | exact Rk.yes_none | exact Rk.yes_some rfl rfl); (simp only [Rk.slotS, List.getD_cons_succ, List.getD_cons_zero]; rfl); (simp only [Rk.slotS, List.getD_cons_succ, List.getD_cons_zero]; rfl); (first | exact Rk.subF_is _ _ | (refine Rk.subF_eq ?_; (first | assumption | ((refine Is.lit ?_); decide +kernel) | (refine Is.ofInt _ _)))); (first | exact Rk.subF_is _ _ | (refine Rk.subF_eq ?_; (first | assumption | ((refine Is.lit ?_); decide +kernel) | (refine Is.ofInt _ _)))); (try simp only [Rk.upd, List.set_cons_succ, List.set_cons_zero])) | ((with_reducible refine Rk.wpR_fsub Rk.good_bel (k := ?_) (X := ?_) (Y := ?_) (S := ?_) (T := ?_) ?_ ?_ ?_ ?_ ?_ ?_); rotate_left 5; (first | exact Rk.yes_none | exact Rk.yes_some rfl rfl); (simp only [Rk.slotS, List.getD_cons_succ, List.getD_cons_zero]; rfl); (simp only [Rk.slotS, List.getD_cons_succ, List.getD_cons_zero]; rfl); (first | exact Rk.subF_is _ _ | (refine Rk.subF_eq ?_; (first | assumption | ((refine Is.lit ?_); decide +kernel) | (refine Is.ofInt _ _)))); (first | exact Rk.subF_is _ _ | (refine Rk.subF_eq ?_; (first | assumption | ((refine Is.lit ?_); decide +kernel) | (refine Is.ofInt _ _)))); (try simp only [Rk.upd, List.set_cons_succ, List.set_cons_zero])) | ((with_reducible refine Rk.wpR_fmul Rk.good_bel (k := ?_) (X := ?_) (Y := ?_) (S := ?_) (T := ?_) ?_ ?_ ?_ ?_ ?_ ?_); rotate_left 5; (first | exact Rk.yes_none | exact Rk.yes_some rfl rfl); (simp only [Rk.slotS, List.getD_cons_succ, List.getD_cons_zero]; rfl); (simp only [Rk.slotS, List.getD_cons_succ, List.getD_cons_zero]; rfl); (first | exact Rk.subF_is _ _ | (refine Rk.subF_eq ?_; (first | assumption | ((refine Is.lit ?_); decide +kernel) | (refine Is.ofInt _ _)))); (first | exact Rk.subF_is _ _ | (refine Rk.subF_eq ?_; (first | assumption | ((refine Is.lit ?_); decide +kernel) | (refine Is.ofInt _ _)))); (try simp only [Rk.upd, List.set_cons_succ, List.set_cons_zero])) | ((with_reducible refine Rk.wpR_fquo Rk.good_bel (k := ?_) (X := ?_) (Y := ?_) (S := ?_) (T := ?_) ?_ ?_ ?_ ?_ ?_ ?_); rotate_left 5; (first | exact Rk.yes_none | exact Rk.yes_some rfl rfl); (simp only [Rk.slotS, List.getD_cons_succ, List.getD_cons_zero]; rfl); (simp only [Rk.slotS, List.getD_cons_succ, List.getD_cons_zero]; rfl); (first | exact Rk.subF_is _ _ | (refine Rk.subF_eq ?_; (first | assumption | ((refine Is.lit ?_); decide +kernel) | (refine Is.ofInt _ _)))); (first | exact Rk.subF_is _ _ | (refine Rk.subF_eq ?_; (first | assumption | ((refine Is.lit ?_); decide +kernel) | (refine Is.ofInt _ _)))); (try simp only [Rk.upd, List.set_cons_succ, List.set_cons_zero])) | ((with_reducible refine Rk.wpR_feq Rk.good_bel (k := ?_) (X := ?_) (Y := ?_) (S := ?_) (T := ?_) ?_ ?_ ?_ ?_ ?_ ?_); rotate_left 5; (first | exact Rk.yes_none | exact Rk.yes_some rfl rfl); (simp only [Rk.slotS, List.getD_cons_succ, List.getD_cons_zero]; rfl); (simp only [Rk.slotS, List.getD_cons_succ, List.getD_cons_zero]; rfl); (first | exact Rk.subF_is _ _ | (refine Rk.subF_eq ?_; (first | assumption | ((refine Is.lit ?_); decide +kernel) | (refine Is.ofInt _ _)))); (first | exact Rk.subF_is _ _ | (refine Rk.subF_eq ?_; (first | assumption | ((refine Is.lit ?_); decide +kernel) | (refine Is.ofInt _ _)))); (try simp only [Rk.upd, List.set_cons_succ, List.set_cons_zero])) | ((with_reducible refine Rk.wpR_fne Rk.good_bel (k := ?_) (X := ?_) (Y := ?_) (S := ?_) (T := ?_) ?_ ?_ ?_ ?_ ?_ ?_); rotate_left 5; (first | exact Rk.yes_none | exact Rk.yes_some rfl rfl); (simp only [Rk.slotS, List.getD_cons_succ, List.getD_cons_zero]; rfl); (simp only [Rk.slotS, List.getD_cons_succ, List.getD_cons_zero]; rfl); (first | exact Rk.subF_is _ _ | (refine Rk.subF_eq ?_; (first | assumption | ((refine Is.lit ?_); decide +kernel) | (refine Is.ofInt _ _)))); (first | exact Rk.subF_is _ _ | (refine Rk.subF_eq ?_; (first | assumption | ((refine Is.lit ?_); decide +kernel) | (refine Is.ofInt _ _)))); (try simp only [Rk.upd, List.set_cons_succ, List.set_cons_zero])) | ((with_reducible refine Rk.wpR_flt Rk.good_bel (k := ?_) (X := ?_) (Y := ?_) (S := ?_) (T := ?_) ?_ ?_ ?_ ?_ ?_ ?_); rotate_left 5; (first | exact Rk.yes_none | exact Rk.yes_some rfl rfl); (simp only [Rk.slotS, List.getD_cons_succ, List.getD_cons_zero]; rfl); (simp only [Rk.slotS, List.getD_cons_succ, List.getD_cons_zero]; rfl); (first | exact Rk.subF_is _ _ | (refine Rk.subF_eq ?_; (first | assumption | ((refine Is.lit ?_); decide +kernel) | (refine Is.ofInt _ _)))); (first | exact Rk.subF_is _ _ | (refine Rk.subF_eq ?_; (first | assumption | ((refine Is.lit ?_); decide +kernel) | (refine Is.ofInt _ _)))); (try simp only [Rk.upd, List.set_cons_succ, List.set_cons_zero])) | ((with_reducible refine Rk.wpR_fgt Rk.good_bel (k := ?_) (X := ?_) (Y := ?_) (S := ?_) (T := ?_) ?_ ?_ ?_ ?_ ?_ ?_); rotate_left 5; (first | exact Rk.yes_none | exact Rk.yes_some rfl rfl); (simp only [Rk.slotS, List.getD_cons_succ, List.getD_cons_zero]; rfl); (simp only [Rk.slotS, List.getD_cons_succ, List.getD_cons_zero]; rfl); (first | exact Rk.subF_is _ _ | (refine Rk.subF_eq ?_; (first | assumption | ((refine Is.lit ?_); decide +kernel) | (refine Is.ofInt _ _)))); (first | exact Rk.subF_is _ _ | (refine Rk.subF_eq ?_; (first | assumption | ((refine Is.lit ?_); decide +kernel) | (refine Is.ofInt _ _)))); (try simp only [Rk.upd, List.set_cons_succ, List.set_cons_zero])) | ((with_reducible refine Rk.wpR_fge Rk.good_bel (k := ?_) (X := ?_) (Y := ?_) (S := ?_) (T := ?_) ?_ ?_ ?_ ?_ ?_ ?_); rotate_left 5; (first | exact Rk.yes_none | exact Rk.yes_some rfl rfl); (simp only [Rk.slotS, List.getD_cons_succ, List.getD_cons_zero]; rfl); (simp only [Rk.slotS, List.getD_cons_succ, List.getD_cons_zero]; rfl); (first | exact Rk.subF_is _ _ | (refine Rk.subF_eq ?_; (first | assumption | ((refine Is.lit ?_); decide +kernel) | (refine Is.ofInt _ _)))); (first | exact Rk.subF_is _ _ | (refine Rk.subF_eq ?_; (first | assumption | ((refine Is.lit ?_); decide +kernel) | (refine Is.ofInt _ _)))); (try simp only [Rk.upd, List.set_cons_succ, List.set_cons_zero])) | ((with_reducible refine Rk.wpR_fle Rk.good_bel (k := ?_) (X := ?_) (Y := ?_) (S := ?_) (T := ?_) ?_ ?_ ?_ ?_ ?_ ?_); rotate_left 5; (first | exact Rk.yes_none | exact Rk.yes_some rfl rfl); (simp only [Rk.slotS, List.getD_cons_succ, List.getD_cons_zero]; rfl); (simp only [Rk.slotS, List.getD_cons_succ, List.getD_cons_zero]; rfl); (first | exact Rk.subF_is _ _ | (refine Rk.subF_eq ?_; (first | assumption | ((refine Is.lit ?_); decide +kernel) | (refine Is.ofInt _ _)))); (first | exact Rk.subF_is _ _ | (refine Rk.subF_eq ?_; (first | assumption | ((refine Is.lit ?_); decide +kernel) | (refine Is.ofInt _ _)))); (try simp only [Rk.upd, List.set_cons_succ, List.set_cons_zero])) | ((with_reducible refine Rk.wpR_indexAddr Rk.good_bel (v := ?_) (v' := ?_) (u := ?_) ?_ ?_ ?_ ?_ ?_); rotate_left 3; (first | exact Rk.yes_none | exact Rk.yes_some rfl rfl); (simp only [Rk.slotS, List.getD_cons_succ, List.getD_cons_zero]; rfl); (simp only [Rk.slotS, List.getD_cons_succ, List.getD_cons_zero]; rfl); (intro ρ w' hw hK1 hK2; go_simp; rfl); (try simp only [Rk.upd, List.set_cons_succ, List.set_cons_zero])) | ((with_reducible refine Rk.wpR_binOp Rk.good_bel (v := ?_) (v' := ?_) (u := ?_) ?_ ?_ ?_ ?_ ?_); rotate_left 3; (first | exact Rk.yes_none | exact Rk.yes_some rfl rfl); (simp only [Rk.slotS, List.getD_cons_succ, List.getD_cons_zero]; rfl); (simp only [Rk.slotS, List.getD_cons_succ, List.getD_cons_zero]; rfl); (intro ρ w' hw hK1 hK2; go_simp; rfl); (try simp only [Rk.upd, List.set_cons_succ, List.set_cons_zero])) | ((with_reducible refine Rk.wpR_load Rk.good_bel (v := ?_) (u := ?_) ?_ ?_ ?_ ?_); rotate_left 2; (first | exact Rk.yes_none | exact Rk.yes_some rfl rfl); (simp only [Rk.slotS, List.getD_cons_succ, List.getD_cons_zero]; rfl); (intro ρ w' hw hK1; skip; go_simp; rfl); (try simp only [Rk.upd, List.set_cons_succ, List.set_cons_zero])) | ((with_reducible refine Rk.wpR_unOp Rk.good_bel (v := ?_) (u := ?_) ?_ ?_ ?_ ?_); rotate_left 2; (first | exact Rk.yes_none | exact Rk.yes_some rfl rfl); (simp only [Rk.slotS, List.getD_cons_succ, List.getD_cons_zero]; rfl); (intro ρ w' hw hK1; go_simp; rfl); (try simp only [Rk.upd, List.set_cons_succ, List.set_cons_zero])) | ((with_reducible refine Rk.wpR_convert Rk.good_bel (v := ?_) (u := ?_) ?_ ?_ ?_ ?_); rotate_left 2; (first | exact Rk.yes_none | exact Rk.yes_some rfl rfl); (simp only [Rk.slotS, List.getD_cons_succ, List.getD_cons_zero]; rfl); (intro ρ w' hw hK1; go_simp; rfl); (try simp only [Rk.upd, List.set_cons_succ, List.set_cons_zero])) | ((with_reducible refine Rk.wpR_field Rk.good_bel (v := ?_) (u := ?_) ?_ ?_ ?_ ?_); rotate_left 2; (first | exact Rk.yes_none | exact Rk.yes_some rfl rfl); (simp only [Rk.slotS, List.getD_cons_succ, List.getD_cons_zero]; rfl); (intro ρ w' hw hK1; go_simp; rfl); (try simp only [Rk.upd, List.set_cons_succ, List.set_cons_zero])) | ((with_reducible refine Rk.wpR_fieldAddr Rk.good_bel (v := ?_) (u := ?_) ?_ ?_ ?_ ?_); rotate_left 2; (first | exact Rk.yes_none | exact Rk.yes_some rfl rfl); (simp only [Rk.slotS, List.getD_cons_succ, List.getD_cons_zero]; rfl); (intro ρ w' hw hK1; go_simp; rfl); (try simp only [Rk.upd, List.set_cons_succ, List.set_cons_zero])) | ((with_reducible refine Rk.wpR_nilCheck Rk.good_bel (v := ?_) (u := ?_) ?_ ?_ ?_ ?_); rotate_left 2; (first | exact Rk.yes_none | exact Rk.yes_some rfl rfl); (simp only [Rk.slotS, List.getD_cons_succ, List.getD_cons_zero]; rfl); (intro ρ w' hw hK1; go_simp; rfl); (try simp only [Rk.upd, List.set_cons_succ, List.set_cons_zero])) | ((with_reducible refine Rk.wpR_builtin1 Rk.good_bel (v := ?_) (u := ?_) ?_ ?_ ?_ ?_); rotate_left 2; (first | exact Rk.yes_none | exact Rk.yes_some rfl rfl); (simp only [Rk.slotS, List.getD_cons_succ, List.getD_cons_zero]; rfl); (intro ρ w' hw hK1; go_simp; rfl); (try simp only [Rk.upd, List.set_cons_succ, List.set_cons_zero])) | ((with_reducible refine Rk.wpR_extract Rk.good_bel (v := ?_) (u := ?_) ?_ ?_ ?_ ?_); rotate_left 2; (first | exact Rk.yes_none | exact Rk.yes_some rfl rfl); (simp only [Rk.slotS, List.getD_cons_succ, List.getD_cons_zero]; rfl); (intro ρ w' hw hK1; go_simp; rfl); (try simp only [Rk.upd, List.set_cons_succ, List.set_cons_zero])))
      (refine Rk.wpR_end ?_; intro wK hwK; (repeat (first | refine Rk.all2_is1 ?_ | (refine Rk.all2_isF ?_; intro r hr) | (refine Rk.all2_any ?_; intro vK hvK))); refine Rk.all2_nil ?_)
      replace hbw := Lib.hid (hbw.out.trans hwK)
      clear hwK
      go_wp2_with fail
      refine ⟨⟨k + 1, by omega, by simp, hbw⟩, ?_⟩
      show n - (((k : Nat) : Int) + 1).toNat < n - ((k : Nat) : Int).toNat
      omega
    · go_wp2
      obtain rfl : k = n := by omega
      all_goals go_ret
      exact ⟨rfl, hbw.out⟩
end Go.Proofs.YtianaalokclklaaGreatDoor
end

/-
  PLAIN LAWS: floats that are small whole numbers; operations on them are exact. (No program here.)
-/
section
set_option exponentiation.threshold 5000
set_option linter.unusedVariables false
set_option linter.unusedSimpArgs false
namespace Go.Fl
open Go Ieee

/-! ### the sign of a sum -/
theorem sum_neg {X Y : Nat} {d : Datum} (hX : Fin64 X) {n : Nat} {j : Int} {t : Bool} (hj : -1074 ≤ j) {vy : Int}
    (hy : ∀ base : Int, -1074 ≤ base → base ≤ j → signed t n (j - base).toNat * (2 ^ (base - -1074).toNat : Nat) = vy) (hd : (double.read X).sum (.number t n j) = some d) :
    svd X + vy < 0 → ng double (double.write d) = true := by
  obtain ⟨m, i, h1, h2, h3, _⟩ := hX.read
  rw [h1] at hd
  simp only [Datum.sum, Option.some.injEq] at hd
  subst hd
  have hp : 0 < 2 ^ (min i j - -1074).toNat := Nat.two_pow_pos _
  have e1 := signed_sv rfl h3 (base := min i j) (by omega) (by omega)
  have e2 := hy (min i j) (by omega) (by omega)
  have e3 : (signed (sg X) m (i - min i j).toNat + signed t n (j - min i j).toNat) * (2 ^ (min i j - -1074).toNat : Nat) = svd X + vy := by
    rw [Int.add_mul, e1, e2]
  obtain ⟨g1, g2⟩ := near_nearest (if signed (sg X) m (i - min i j).toNat + signed t n (j - min i j).toNat = 0 then sg X && t else signed (sg X) m (i - min i j).toNat + signed t n (j - min i j).toNat < 0)
    (signed (sg X) m (i - min i j).toNat + signed t n (j - min i j).toNat).natAbs (min i j) (svd X + vy).natAbs 1 (by omega) (by
      have : (-1074 - min i j).toNat = 0 := by omega
      rw [this, Nat.pow_zero, Nat.mul_one, Nat.mul_one, ← e3, Int.natAbs_mul]
      rfl)
  intro hneg
  show ng double (double.nearest _ _ _) = true
  rw [g2]
  rw [← e3] at hneg
  have hneg' : signed (sg X) m (i - min i j).toNat + signed t n (j - min i j).toNat < 0 := by
    rcases Int.lt_or_le (signed (sg X) m (i - min i j).toNat + signed t n (j - min i j).toNat) 0 with g | g
    · exact g
    · have := Int.mul_nonneg g (show (0 : Int) ≤ (2 ^ (min i j - -1074).toNat : Nat) by omega)
      omega
  rw [if_neg (by omega)]
  exact decide_eq_true hneg'
theorem add_neg {X Y : Nat} (hX : Fin64 X) (hY : Fin64 Y) : svd X + svd Y < 0 → sg (fop .add .f64 X Y) = true := by
  obtain ⟨n, j, g1, g2, g3, _⟩ := hY.read
  cases hd : (double.read X).sum (double.read Y) with
  | none =>
    obtain ⟨m, i, h1, _⟩ := hX.read
    rw [h1, g1] at hd; simp [Datum.sum] at hd
  | some d =>
    have hf : floatBits .add .f64 X Y = some (double.write d) := by
      show ((double.read X).sum (double.read Y)).map double.write = _
      rw [hd]; rfl
    rw [fop_some hf]
    rw [g1] at hd
    exact sum_neg hX (Y := Y) g2 (fun base hb hj => signed_sv rfl g3 hb hj) hd
theorem sub_neg {X Y : Nat} (hX : Fin64 X) (hY : Fin64 Y) : svd X - svd Y < 0 → sg (fop .sub .f64 X Y) = true := by
  obtain ⟨n, j, g1, g2, g3, _⟩ := hY.read
  cases hd : (double.read X).sum (double.read Y).opposite with
  | none =>
    obtain ⟨m, i, h1, _⟩ := hX.read
    rw [h1, g1] at hd; simp [Datum.sum, Datum.opposite] at hd
  | some d =>
    have hf : floatBits .sub .f64 X Y = some (double.write d) := by
      show ((double.read X).sum (double.read Y).opposite).map double.write = _
      rw [hd]; rfl
    rw [fop_some hf]
    rw [g1] at hd
    have := sum_neg hX (Y := Y) (vy := -svd Y) g2 (fun base hb hj => ?_) hd
    · rw [← Int.sub_eq_add_neg] at this; exact this
    · have e := signed_sv (X := Y) rfl g3 hb hj
      rw [← e, ← Int.neg_mul]
      congr 1
      unfold signed
      cases sg Y <;> simp

/-! ### words of 64 bits that are whole numbers -/
def V64 (X : Nat) (n : Int) : Prop := X < 18446744073709551616 ∧ Fin64 X ∧ svd X = n * (2 ^ 1074 : Nat)
theorem V64.mv {X : Nat} {n : Int} (h : V64 X n) : mv X = n.natAbs * 2 ^ 1074 := by
  have := congrArg Int.natAbs h.2.2
  rw [svd_abs, Int.natAbs_mul] at this
  exact this
theorem V64.sg {X : Nat} {n : Int} (h : V64 X n) (hn : n ≠ 0) : sg X = decide (n < 0) := by
  have h1 := h.2.2
  have hp : (0 : Int) < (2 ^ 1074 : Nat) := by have := Nat.two_pow_pos 1074; omega
  unfold svd at h1
  have hm := h.mv
  have hpos : 0 < Fl.mv X := by rw [hm]; exact Nat.mul_pos (by omega) (Nat.two_pow_pos _)
  cases hs : Fl.sg X with
  | true =>
    rw [hs, if_pos rfl] at h1
    have : n < 0 := by
      rcases Int.lt_or_le n 0 with g | g
      · exact g
      · have := Int.mul_nonneg g (Int.le_of_lt hp); omega
    exact (decide_eq_true this).symm
  | false =>
    rw [hs, if_neg (by simp)] at h1
    have : ¬ n < 0 := by
      intro g
      have := Int.mul_neg_of_neg_of_pos g hp
      omega
    exact (decide_eq_false this).symm
theorem V64.mk' {W : Nat} {n : Int} (hn : n.natAbs < 9007199254740992) {num den : Nat} (hd : 0 < den) (h : Near W num den) (e : num = n.natAbs * 2 ^ 1074 * den) (hp : 0 < n → Fl.sg W = false) (hm : n < 0 → Fl.sg W = true) : V64 W n := by
  obtain ⟨r0, g1, g2⟩ := exists_rung double 1074 n.natAbs (by rw [bin64]; omega)
  rw [bin64] at g2
  have hr : r0 < 9218868437227405312 := Nat.lt_of_lt_of_le g2 (by decide)
  obtain ⟨w1, w2, w3⟩ := h
  obtain ⟨a, b⟩ := w3 r0 (Nat.le_of_lt hr)
  rw [g1, e] at a b
  have heq : W % 9223372036854775808 = r0 := Nat.le_antisymm (a (Nat.le_refl _)) (b (Nat.le_refl _))
  have hmv : Fl.mv W = n.natAbs * 2 ^ 1074 := by unfold Fl.mv; rw [heq, g1]
  refine ⟨w1, by unfold Fin64; rw [heq]; exact hr, ?_⟩
  unfold svd
  rcases Int.lt_trichotomy n 0 with g | g | g
  · rw [hm g, if_pos rfl, hmv]
    have : ((n.natAbs : Nat) : Int) = -n := by omega
    rw [Int.natCast_mul, this, Int.neg_mul, Int.neg_neg]
  · subst g
    rw [hmv]; simp
  · rw [hp g, if_neg (by simp), hmv]
    have : ((n.natAbs : Nat) : Int) = n := by omega
    rw [Int.natCast_mul, this]
theorem V64.is {x X : Nat} {n : Int} (h : V64 X n) : isn .f64 X = false := by
  rw [isn64, decide_eq_false_iff_not]
  have := h.2.1
  unfold Fin64 at this
  omega
theorem V64.add {X Y : Nat} {m n : Int} (hX : V64 X m) (hY : V64 Y n) (h : (m + n).natAbs < 9007199254740992) : V64 (fop .add .f64 X Y) (m + n) := by
  obtain ⟨h1, h2⟩ := near_add hX.2.1 hY.2.1
  have h3 := add_neg hX.2.1 hY.2.1
  have e : svd X + svd Y = (m + n) * (2 ^ 1074 : Nat) := by rw [hX.2.2, hY.2.2, Int.add_mul]
  have hp : (0 : Int) < (2 ^ 1074 : Nat) := by have := Nat.two_pow_pos 1074; omega
  refine .mk' h (den := 1) (by omega) h1 (by rw [e, Int.natAbs_mul, Nat.mul_one]; rfl) (fun g => h2 ?_) (fun g => h3 ?_)
  · rw [e]; exact Int.mul_pos g hp
  · rw [e]; exact Int.mul_neg_of_neg_of_pos g hp
theorem V64.sub {X Y : Nat} {m n : Int} (hX : V64 X m) (hY : V64 Y n) (h : (m - n).natAbs < 9007199254740992) : V64 (fop .sub .f64 X Y) (m - n) := by
  obtain ⟨h1, h2⟩ := near_sub hX.2.1 hY.2.1
  have h3 := sub_neg hX.2.1 hY.2.1
  have e : svd X - svd Y = (m - n) * (2 ^ 1074 : Nat) := by rw [hX.2.2, hY.2.2, Int.sub_mul]
  have hp : (0 : Int) < (2 ^ 1074 : Nat) := by have := Nat.two_pow_pos 1074; omega
  refine .mk' h (den := 1) (by omega) h1 (by rw [e, Int.natAbs_mul, Nat.mul_one]; rfl) (fun g => h2 ?_) (fun g => h3 ?_)
  · rw [e]; exact Int.mul_pos g hp
  · rw [e]; exact Int.mul_neg_of_neg_of_pos g hp
theorem sign_mul {m n : Int} (h : m * n ≠ 0) : decide (m * n < 0) = (decide (m < 0) ^^ decide (n < 0)) := by
  have hm : m ≠ 0 := by rintro rfl; simp at h
  have hn : n ≠ 0 := by rintro rfl; simp at h
  rcases Int.lt_or_gt_of_ne hm with a | a <;> rcases Int.lt_or_gt_of_ne hn with b | b
  · have := Int.mul_pos_of_neg_of_neg a b
    rw [decide_eq_true a, decide_eq_true b, decide_eq_false (by omega)]; rfl
  · have := Int.mul_neg_of_neg_of_pos a b
    rw [decide_eq_true a, decide_eq_false (show ¬ n < 0 by omega), decide_eq_true this]; rfl
  · have := Int.mul_neg_of_pos_of_neg a b
    rw [decide_eq_false (show ¬ m < 0 by omega), decide_eq_true b, decide_eq_true this]; rfl
  · have := Int.mul_pos a b
    rw [decide_eq_false (show ¬ m < 0 by omega), decide_eq_false (show ¬ n < 0 by omega), decide_eq_false (by omega)]; rfl
theorem V64.mul {X Y : Nat} {m n : Int} (hX : V64 X m) (hY : V64 Y n) (h : (m * n).natAbs < 9007199254740992) : V64 (fop .mul .f64 X Y) (m * n) := by
  obtain ⟨h1, h2⟩ := near_mul hX.2.1 hY.2.1
  have hs : m * n ≠ 0 → Fl.sg (fop .mul .f64 X Y) = decide (m * n < 0) := fun g => by
    have hm : m ≠ 0 := by rintro rfl; simp at g
    have hn : n ≠ 0 := by rintro rfl; simp at g
    rw [h2, hX.sg hm, hY.sg hn, sign_mul g]
  refine .mk' h (Nat.two_pow_pos 1074) h1 (by rw [hX.mv, hY.mv, Int.natAbs_mul]; ac_rfl) (fun g => ?_) (fun g => ?_)
  · rw [hs (by omega)]; exact decide_eq_false (by omega)
  · rw [hs (by omega)]; exact decide_eq_true g
/-- a quotient that is exact -/
theorem V64.quo {X Y : Nat} {q n : Int} (hX : V64 X (q * n)) (hY : V64 Y n) (hn0 : n ≠ 0) (hq : q.natAbs < 1125899906842624) : V64 (fop .quo .f64 X Y) q := by
  obtain ⟨m, i, h1, h2, h3, _⟩ := hX.2.1.read
  obtain ⟨k, j, g1, g2, g3, _⟩ := hY.2.1.read
  have hmY := hY.mv
  have hmX := hX.mv
  have hpos : 0 < Fl.mv Y := by rw [hmY]; exact Nat.mul_pos (by omega) (Nat.two_pow_pos _)
  have hk : k ≠ 0 := by
    rintro rfl
    rw [Nat.zero_mul] at g3
    omega
  have hk0 : 0 < k := by omega
  obtain ⟨more, hmore⟩ : ∃ more, more = 54 + k.log2 - m.log2 := ⟨_, rfl⟩
  obtain ⟨V, hV⟩ : ∃ V, V = 2 * ((m <<< more) / k) + ((m <<< more) % k != 0).toNat := ⟨_, rfl⟩
  have hf : floatBits .quo .f64 X Y = some (double.nearest (Fl.sg X ^^ Fl.sg Y) V (i - j - more - 1)) := by
    show ((double.read X).quotient 54 (double.read Y)).map double.write = _
    rw [h1, g1]
    simp only [Datum.quotient, hk, if_false, Option.map_some, Format.write, ← hmore, ← hV]
  rw [fop_some hf]
  have hD : m <<< more = m * 2 ^ more := Nat.shiftLeft_eq _ _
  obtain ⟨I, hI⟩ : ∃ I : Nat, (i - -1074).toNat = I := ⟨_, rfl⟩
  obtain ⟨J, hJ⟩ : ∃ J : Nat, (j - -1074).toNat = J := ⟨_, rfl⟩
  rw [hI] at h3
  rw [hJ] at g3
  have hXY : m * 2 ^ I = q.natAbs * (k * 2 ^ J) := by rw [h3, g3, hmX, hmY, Int.natAbs_mul, Nat.mul_assoc]
  -- the quotient of the mantissas
  obtain ⟨U, hU⟩ : ∃ U, m * 2 ^ more = U * k ∧ U * 2 ^ I = q.natAbs * 2 ^ (J + more) := by
    by_cases hm0 : m = 0
    · subst hm0
      have : q.natAbs = 0 := by
        rw [Nat.zero_mul] at hXY
        rcases Nat.mul_eq_zero.1 hXY.symm with g | g
        · exact g
        · have := Nat.mul_pos hk0 (Nat.two_pow_pos J); omega
      exact ⟨0, by simp, by rw [this]; simp⟩
    · have hIJ : I ≤ J + more := by
        have a1 : k < 2 ^ (k.log2 + 1) := Nat.lt_log2_self
        have a2 : 2 ^ m.log2 ≤ m := Nat.log2_self_le hm0
        have a3 : 2 ^ (m.log2 + I) ≤ m * 2 ^ I := by rw [Nat.pow_add]; exact Nat.mul_le_mul_right _ a2
        have a4 : q.natAbs * (k * 2 ^ J) < 2 ^ 50 * (2 ^ (k.log2 + 1) * 2 ^ J) := by
          have b1 : q.natAbs < 2 ^ 50 := by omega
          have b2 : k * 2 ^ J ≤ 2 ^ (k.log2 + 1) * 2 ^ J := Nat.mul_le_mul_right _ (by omega)
          have b3 : 0 < 2 ^ (k.log2 + 1) * 2 ^ J := Nat.mul_pos (Nat.two_pow_pos _) (Nat.two_pow_pos _)
          calc q.natAbs * (k * 2 ^ J) ≤ q.natAbs * (2 ^ (k.log2 + 1) * 2 ^ J) := Nat.mul_le_mul_left _ b2
            _ < 2 ^ 50 * (2 ^ (k.log2 + 1) * 2 ^ J) := Nat.mul_lt_mul_of_pos_right b1 b3
        rw [← Nat.pow_add, ← Nat.pow_add] at a4
        rw [hXY] at a3
        have a5 : 2 ^ (m.log2 + I) < 2 ^ (50 + (k.log2 + 1 + J)) := Nat.lt_of_le_of_lt a3 a4
        have a6 : m.log2 + I < 50 + (k.log2 + 1 + J) := (Nat.pow_lt_pow_iff_right (by omega)).1 a5
        omega
      refine ⟨q.natAbs * 2 ^ (J + more - I), ?_, ?_⟩
      · refine Nat.eq_of_mul_eq_mul_right (Nat.two_pow_pos I) ?_
        calc m * 2 ^ more * 2 ^ I = m * 2 ^ I * 2 ^ more := by ac_rfl
          _ = q.natAbs * (k * 2 ^ J) * 2 ^ more := by rw [hXY]
          _ = q.natAbs * k * 2 ^ (J + more) := by rw [Nat.pow_add]; ac_rfl
          _ = q.natAbs * k * 2 ^ ((J + more - I) + I) := by rw [Nat.sub_add_cancel hIJ]
          _ = q.natAbs * 2 ^ (J + more - I) * k * 2 ^ I := by rw [Nat.pow_add]; ac_rfl
      · rw [Nat.mul_assoc, ← Nat.pow_add, Nat.sub_add_cancel hIJ]
  have hVU : V = 2 * U := by
    rw [hV, hD, hU.1, Nat.mul_div_cancel _ hk0, Nat.mul_mod_left]; simp
  obtain ⟨pl, hpl⟩ : ∃ pl : Int, pl = i - j - more - 1 := ⟨_, rfl⟩
  rw [← hpl]
  obtain ⟨a, ha⟩ : ∃ a : Nat, (pl - -1074).toNat = a := ⟨_, rfl⟩
  obtain ⟨b, hb⟩ : ∃ b : Nat, (-1074 - pl).toNat = b := ⟨_, rfl⟩
  have hsum : more + J + a = b + I + 1073 := by omega
  obtain ⟨nr, ns⟩ := near_nearest (Fl.sg X ^^ Fl.sg Y) V pl (V * 2 ^ a) (2 ^ b) (Nat.two_pow_pos _) (by rw [ha, hb])
  have hs : q ≠ 0 → Fl.sg (double.nearest (Fl.sg X ^^ Fl.sg Y) V pl) = decide (q < 0) := fun g => by
    have hqn : q * n ≠ 0 := Int.mul_ne_zero g hn0
    have h5 : Fl.sg (double.nearest (Fl.sg X ^^ Fl.sg Y) V pl) = (Fl.sg X ^^ Fl.sg Y) := ns
    rw [h5, hX.sg hqn, hY.sg hn0, sign_mul hqn]
    cases decide (q < 0) <;> cases decide (n < 0) <;> rfl
  refine .mk' (by omega) (Nat.two_pow_pos b) nr ?_ (fun g => by rw [hs (by omega)]; exact decide_eq_false (by omega)) (fun g => by rw [hs (by omega)]; exact decide_eq_true g)
  refine Nat.eq_of_mul_eq_mul_right (Nat.two_pow_pos I) ?_
  calc V * 2 ^ a * 2 ^ I = 2 * 2 ^ a * (U * 2 ^ I) := by rw [hVU]; ac_rfl
    _ = 2 * 2 ^ a * (q.natAbs * 2 ^ (J + more)) := by rw [hU.2]
    _ = q.natAbs * 2 ^ (1 + (more + J + a)) := by rw [Nat.pow_add 2 1, Nat.pow_one, Nat.pow_add 2 (more + J), Nat.pow_add 2 more, Nat.pow_add 2 J]; ac_rfl
    _ = q.natAbs * 2 ^ (1074 + b + I) := by congr 2; omega
    _ = q.natAbs * 2 ^ 1074 * 2 ^ b * 2 ^ I := by rw [Nat.pow_add, Nat.pow_add]; ac_rfl

/-! ### words of 32 bits that are whole numbers -/
theorem word32_lt {neg : Bool} {r : Nat} (h : r ≤ 2139095040) : Ieee.single.word neg r < 4294967296 ∧ Ieee.single.word neg r % 2147483648 = r ∧ Ieee.single.word neg r / 2147483648 = neg.toNat := by
  unfold Ieee.Format.word
  rw [sw32]
  cases neg
  · simp only [Bool.false_eq_true, if_false, Bool.toNat_false]; omega
  · simp only [if_true, Bool.toNat_true]; omega
def V32 (X : Nat) (n : Int) : Prop := X < 4294967296 ∧ X % 2147483648 < 2139095040 ∧ sv FloatKind.f32.format X = n * (2 ^ 149 : Nat)
theorem V32.num {X : Nat} {n : Int} (h : V32 X n) : isn .f32 X = false := by
  rw [isn32, decide_eq_false_iff_not]
  have := h.2.1
  omega
theorem V32.can {X : Nat} {n : Int} (h : V32 X n) : Can .f32 X := ⟨by rw [w32]; exact h.1, cn_of_not h.num⟩
theorem V32.is {X : Nat} {n : Int} (h : V32 X n) : Is .f32 X X := ⟨by rw [w32]; exact h.1, cn_of_not h.num⟩
theorem V32.eq {x X : Nat} {n : Int} (h : V32 X n) (hx : Is .f32 x X) : x = X := by
  have h1 : isn .f32 x = false := by rw [← isn_cn, hx.2]; exact h.num
  rw [← hx.2, cn_of_not h1]
theorem V32.mk' {s : Bool} {r : Nat} {n : Int} (hr : r < 2139095040) (hv : rv Ieee.single r = n.natAbs * 2 ^ 149) (hp : 0 < n → s = false) (hm : n < 0 → s = true) : V32 (Ieee.single.word s r) n := by
  obtain ⟨g1, g2, g3⟩ := word32_lt (neg := s) (Nat.le_of_lt hr)
  refine ⟨g1, by rw [g2]; exact hr, ?_⟩
  unfold sv
  rw [ng32, rg32, g2, g3]
  have hv' : rv FloatKind.f32.format r = n.natAbs * 2 ^ 149 := hv
  rw [hv']
  rcases Int.lt_trichotomy n 0 with g | g | g
  · rw [hm g]
    have : ((n.natAbs : Nat) : Int) = -n := by omega
    show (if (Bool.toNat true % 2 == 1) = true then _ else _) = _
    rw [if_pos (by decide), Int.natCast_mul, this, Int.neg_mul, Int.neg_neg]
  · subst g
    simp
  · rw [hp g]
    have : ((n.natAbs : Nat) : Int) = n := by omega
    show (if (Bool.toNat false % 2 == 1) = true then _ else _) = _
    rw [if_neg (by decide), Int.natCast_mul, this]
theorem rung32 (n : Int) (h : n.natAbs < 16777216) : ∃ r, rv Ieee.single r = n.natAbs * 2 ^ 149 ∧ r < 2139095040 := by
  obtain ⟨r, h1, h2⟩ := exists_rung Ieee.single 149 n.natAbs (by rw [bin32]; omega)
  rw [bin32] at h2
  exact ⟨r, h1, Nat.lt_of_lt_of_le h2 (by decide)⟩
theorem V64.nar {X : Nat} {n : Int} (h : V64 X n) (hn : n.natAbs < 16777216) : V32 (nar X) n ∧ NoOv X := by
  obtain ⟨r, g1, g2⟩ := rung32 n hn
  have hw : X = Ieee.double.word (Fl.sg X) (X % 9223372036854775808) := by
    have := word_of (k := .f64) (X := X) (by rw [w64]; exact h.1)
    rw [rg64] at this; exact this
  have hv : rv Ieee.double (X % 9223372036854775808) = rv Ieee.single r * 2 ^ 925 := by
    have := h.mv
    unfold Fl.mv at this
    rw [this, g1, Nat.mul_assoc, ← Nat.pow_add]
  have hf := narrow_fin (Fl.sg X) g2 h.2.1 hv
  rw [← hw] at hf
  refine ⟨?_, .inr (by rw [hf]; rfl)⟩
  have e : Fl.nar X = Ieee.single.word (Fl.sg X) r := by unfold Fl.nar; rw [hf]; rfl
  rw [e]
  exact .mk' g2 g1 (fun g => by rw [h.sg (by omega)]; exact decide_eq_false (by omega)) (fun g => by rw [h.sg (by omega)]; exact decide_eq_true g)
theorem V32.rvs {X : Nat} {n : Int} (h : V32 X n) : rv Ieee.single (X % 2147483648) = n.natAbs * 2 ^ 149 ∧ (n ≠ 0 → ng FloatKind.f32.format X = decide (n < 0)) := by
  have h1 := h.2.2
  have hp : (0 : Int) < (2 ^ 149 : Nat) := by have := Nat.two_pow_pos 149; omega
  unfold sv at h1
  rw [rg32] at h1
  have e : rv FloatKind.f32.format (X % 2147483648) = rv Ieee.single (X % 2147483648) := rfl
  rw [e] at h1
  have h2 : rv Ieee.single (X % 2147483648) = n.natAbs * 2 ^ 149 := by
    have := congrArg Int.natAbs h1
    rw [Int.natAbs_mul] at this
    have e2 : ((2 ^ 149 : Nat) : Int).natAbs = 2 ^ 149 := rfl
    rw [e2] at this
    rw [← this]
    split <;> omega
  refine ⟨h2, fun hn => ?_⟩
  have hpos : 0 < rv Ieee.single (X % 2147483648) := by rw [h2]; exact Nat.mul_pos (by omega) (Nat.two_pow_pos _)
  cases hs : ng FloatKind.f32.format X with
  | true =>
    rw [hs, if_pos rfl] at h1
    have : n < 0 := by
      rcases Int.lt_or_le n 0 with g | g
      · exact g
      · have := Int.mul_nonneg g (Int.le_of_lt hp); omega
    exact (decide_eq_true this).symm
  | false =>
    rw [hs, if_neg (by simp)] at h1
    have : ¬ n < 0 := by
      intro g
      have := Int.mul_neg_of_neg_of_pos g hp
      omega
    exact (decide_eq_false this).symm
theorem V32.wid {X : Nat} {n : Int} (h : V32 X n) : V64 (wid X) n := by
  obtain ⟨g1, g2⟩ := h.rvs
  obtain ⟨r0, h0, h1, h2, _⟩ := wid_cases h.1 h.num
  obtain ⟨k1, k2⟩ := h2 h.2.1
  obtain ⟨a1, a2, a3⟩ := word64_lt (neg := ng FloatKind.f32.format X) (Nat.le_of_lt k1)
  have hmv : Fl.mv (Fl.wid X) = n.natAbs * 2 ^ 1074 := by unfold Fl.mv; rw [h1, a2, k2, g1, Nat.mul_assoc, ← Nat.pow_add]
  have hsg : Fl.sg (Fl.wid X) = ng FloatKind.f32.format X := by
    rw [h1]
    generalize ng FloatKind.f32.format X = q at a3 ⊢
    unfold Fl.sg ng
    have e : double.signWeight = 9223372036854775808 := sw64
    rw [e, a3]
    cases q <;> rfl
  refine ⟨by rw [h1]; exact a1, by unfold Fin64; rw [h1, a2]; exact k1, ?_⟩
  unfold svd
  rw [hmv, hsg]
  rcases Int.lt_trichotomy n 0 with g | g | g
  · rw [g2 (by omega), decide_eq_true g, if_pos rfl]
    have : ((n.natAbs : Nat) : Int) = -n := by omega
    rw [Int.natCast_mul, this, Int.neg_mul, Int.neg_neg]
  · subst g; simp
  · rw [g2 (by omega), decide_eq_false (by omega), if_neg (by simp)]
    have : ((n.natAbs : Nat) : Int) = n := by omega
    rw [Int.natCast_mul, this]
theorem V32.feq {X Y : Nat} {m n : Int} (hX : V32 X m) (hY : V32 Y n) : feq .f32 X Y = decide (m = n) := by
  have hp : (0 : Int) < (2 ^ 149 : Nat) := by have := Nat.two_pow_pos 149; omega
  rw [Bool.eq_iff_iff, feq_iff, decide_eq_true_eq, hX.2.2, hY.2.2]
  constructor
  · rintro ⟨_, _, h⟩
    exact Int.eq_of_mul_eq_mul_right (by omega) h
  · rintro rfl
    exact ⟨hX.num, hY.num, rfl⟩
theorem V32.neg {X : Nat} {n : Int} (h : V32 X n) : V32 (fneg .f32 X) (-n) := by
  have hi := fneg_is h.is
  have hn : isn .f32 (Op.negFloat .f32 X) = false := by rw [(isn_neg .f32 (by rw [w32]; exact h.1)).1]; exact h.num
  have e : Fl.fneg .f32 X = Op.negFloat .f32 X := by unfold Fl.fneg; exact cn_of_not hn
  rw [e, neg32 h.1]
  have h1 := h.1
  have h2 := h.2.1
  have h3 := h.2.2
  unfold sv at h3
  rw [ng32, rg32] at h3
  by_cases hX : 2147483648 ≤ X
  · rw [if_pos hX]
    have a1 : X / 2147483648 = 1 := by omega
    have a2 : X - 2147483648 = X % 2147483648 := by omega
    refine ⟨by omega, by omega, ?_⟩
    unfold sv
    rw [ng32, rg32, a2]
    have a3 : X % 2147483648 / 2147483648 = 0 := by omega
    rw [a3, Nat.mod_mod]
    rw [a1] at h3
    rw [if_pos (by decide)] at h3
    rw [if_neg (by decide), Int.neg_mul, ← h3, Int.neg_neg]
  · rw [if_neg hX]
    have a1 : X / 2147483648 = 0 := by omega
    have a2 : (X + 2147483648) % 2147483648 = X % 2147483648 := by omega
    have a3 : (X + 2147483648) / 2147483648 = 1 := by omega
    refine ⟨by omega, by omega, ?_⟩
    unfold sv
    rw [ng32, rg32, a2, a3]
    rw [a1] at h3
    rw [if_neg (by decide)] at h3
    rw [if_pos (by decide), Int.neg_mul, ← h3]
theorem V64.neg {X : Nat} {n : Int} (h : V64 X n) : V64 (fneg .f64 X) (-n) := by
  have hx : Is .f64 X X := ⟨by rw [w64]; exact h.1, cn_of_not (V64.is (x := X) h)⟩
  have hn : isn .f64 (Op.negFloat .f64 X) = false := by rw [(isn_neg .f64 (by rw [w64]; exact h.1)).1]; exact V64.is (x := X) h
  have e : Fl.fneg .f64 X = Op.negFloat .f64 X := by unfold Fl.fneg; exact cn_of_not hn
  rw [e, neg64 h.1]
  have h1 := h.1
  have h2 := h.2.1
  have h3 := h.2.2
  unfold Fin64 at h2
  unfold svd Fl.mv Fl.sg ng at h3
  have es : double.signWeight = 9223372036854775808 := sw64
  rw [es] at h3
  by_cases hX : 9223372036854775808 ≤ X
  · rw [if_pos hX]
    have a1 : X / 9223372036854775808 = 1 := by omega
    have a2 : X - 9223372036854775808 = X % 9223372036854775808 := by omega
    refine ⟨by omega, by unfold Fin64; omega, ?_⟩
    unfold svd Fl.mv Fl.sg ng
    rw [es, a2]
    have a3 : X % 9223372036854775808 / 9223372036854775808 = 0 := by omega
    rw [a3, Nat.mod_mod]
    rw [a1] at h3
    rw [if_pos (by decide)] at h3
    rw [if_neg (by decide), Int.neg_mul, ← h3, Int.neg_neg]
  · rw [if_neg hX]
    have a1 : X / 9223372036854775808 = 0 := by omega
    have a2 : (X + 9223372036854775808) % 9223372036854775808 = X % 9223372036854775808 := by omega
    have a3 : (X + 9223372036854775808) / 9223372036854775808 = 1 := by omega
    refine ⟨by omega, by unfold Fin64; omega, ?_⟩
    unfold svd Fl.mv Fl.sg ng
    rw [es, a2, a3]
    rw [a1] at h3
    rw [if_neg (by decide)] at h3
    rw [if_pos (by decide), Int.neg_mul, ← h3]
/-- a whole number made a float -/
theorem V32.ofInt (n : Int) (h : n.natAbs < 16777216) : V32 (floatOfInt .f32 n) n := by
  obtain ⟨r, g1, g2⟩ := rung32 n h
  have e : floatOfInt .f32 n = Ieee.single.word (decide (n < 0)) r := by
    show Ieee.single.nearest (decide (n < 0)) n.natAbs 0 = _
    refine nearest_exact _ _ (by rw [inf32]; omega) ?_
    rw [lp32, g1]
    have e1 : ((0 : Int) - -149).toNat = 149 := by decide
    have e2 : ((-149 : Int) - 0).toNat = 0 := by decide
    rw [e1, e2, Nat.pow_zero, Nat.mul_one]
  rw [e]
  exact .mk' g2 g1 (fun g => decide_eq_false (by omega)) (fun g => decide_eq_true g)
/-- two words that are the same number, not nought -/
theorem V64.same {X Y : Nat} {n : Int} (hX : V64 X n) (hY : V64 Y n) (hn : n ≠ 0) : X = Y := by
  have h1 := eq_of_rv_eq double (show rv double (X % 9223372036854775808) = rv double (Y % 9223372036854775808) by
    have a := hX.mv; have b := hY.mv
    unfold Fl.mv at a b
    rw [a, b])
  have a1 : X = Ieee.double.word (Fl.sg X) (X % 9223372036854775808) := by
    have := word_of (k := .f64) (X := X) (by rw [w64]; exact hX.1)
    rw [rg64] at this; exact this
  have a2 : Y = Ieee.double.word (Fl.sg Y) (Y % 9223372036854775808) := by
    have := word_of (k := .f64) (X := Y) (by rw [w64]; exact hY.1)
    rw [rg64] at this; exact this
  rw [a1, a2, h1, hX.sg hn, hY.sg hn]
end Go.Fl
end

/-
  WHOLE NUMBERS OF FLOATS: floor, trunc, and the conversion to a 64-bit integer: where the number is not too great. (No program here.)
-/
section
set_option exponentiation.threshold 5000
set_option linter.unusedVariables false
set_option linter.unusedSimpArgs false
namespace Go.Fl
open Go Ieee

/-- made whole -/
def fcut (way : Toward) (X : Nat) : Nat := double.write ((double.read X).integral way)
/-- as an integer, cut towards zero -/
def toI (X : Nat) : Int := ((double.read X).toInt .zero).getD 0

theorem cut_low (way : Toward) (s : Bool) (n d : Nat) : way.cut s n d ≤ n / 2 ^ d + 1 ∧ Toward.zero.cut s n d = n / 2 ^ d := by
  have key : n / (1 <<< min d (n.log2 + 2)) = n / 2 ^ d := by
    rw [Nat.shiftLeft_eq, Nat.one_mul]
    rcases Nat.le_total d (n.log2 + 2) with g | g
    · rw [Nat.min_eq_left g]
    · rw [Nat.min_eq_right g]
      have h1 : n < 2 ^ (n.log2 + 2) := by
        rcases Nat.eq_zero_or_pos n with g0 | g0
        · rw [g0]; exact Nat.two_pow_pos _
        · exact Nat.lt_of_lt_of_le (Nat.lt_log2_self) (two_pow_le (by omega))
      rw [Nat.div_eq_of_lt h1, Nat.div_eq_of_lt (Nat.lt_of_lt_of_le h1 (two_pow_le g))]
  constructor
  · unfold Toward.cut
    simp only [key]
    refine Nat.add_le_add_left ?_ _
    exact Bool.toNat_le _
  · unfold Toward.cut
    simp only [key]
    rfl

/-- the whole part's magnitude -/
theorem cut_mag {m : Nat} {i : Int} {V : Nat} (hi : -1074 ≤ i) (hm : m * 2 ^ (i - -1074).toNat = V) : (m <<< i.toNat) / 2 ^ (-i).toNat * 2 ^ 1074 ≤ V := by
  rw [← hm, Nat.shiftLeft_eq]
  rcases Int.le_total 0 i with g | g
  · have e1 : (-i).toNat = 0 := by omega
    have e2 : (i - -1074).toNat = i.toNat + 1074 := by omega
    rw [e1, e2, Nat.pow_zero, Nat.div_one, Nat.pow_add, Nat.mul_assoc]
    exact Nat.le_refl _
  · have e1 : i.toNat = 0 := by omega
    have e2 : 1074 = (i - -1074).toNat + (-i).toNat := by omega
    rw [e1, Nat.pow_zero, Nat.mul_one]
    calc m / 2 ^ (-i).toNat * 2 ^ 1074 = m / 2 ^ (-i).toNat * 2 ^ ((i - -1074).toNat + (-i).toNat) := by rw [← e2]
      _ = (m / 2 ^ (-i).toNat * 2 ^ (-i).toNat) * 2 ^ (i - -1074).toNat := by rw [Nat.pow_add]; ac_rfl
      _ ≤ m * 2 ^ (i - -1074).toNat := Nat.mul_le_mul_right _ (Nat.div_mul_le_self _ _)

theorem fcut_bd {X p : Nat} (way : Toward) (h : Bd X p) (hp : 1074 ≤ p) (hp' : p ≤ 2000) : Bd (fcut way X) (p + 1) := by
  obtain ⟨m, i, h1, h2, h3, _⟩ := h.2.1.read
  unfold fcut
  rw [h1]
  show Bd (double.nearest _ _ _) _
  refine (near_nearest (sg X) (way.cut (sg X) (m <<< i.toNat) (-i).toNat) 0 (way.cut (sg X) (m <<< i.toNat) (-i).toNat * 2 ^ 1074) 1 (by omega) (by
    rw [show ((0 : Int) - -1074).toNat = 1074 by omega, show ((-1074 : Int) - 0).toNat = 0 by omega, Nat.pow_zero])).1.bd (by omega) ?_
  have a := (cut_low way (sg X) (m <<< i.toNat) (-i).toNat).1
  have b := cut_mag h2 h3
  have c := Nat.mul_le_mul_right (2 ^ 1074) a
  rw [Nat.add_mul, Nat.one_mul] at c
  have d := h.2.2
  have e := two_pow_le (a := 1074) (b := p) hp
  rw [Nat.mul_one]
  refine Nat.le_trans c ?_
  rw [show (2 : Nat) ^ (p + 1) = 2 ^ p * 2 from Nat.pow_succ _ _, Nat.mul_two]
  exact Nat.add_le_add (Nat.le_trans b d) e

theorem is_bd {X p : Nat} (h : Bd X p) : Is .f64 X X := by
  refine ⟨by rw [w64]; exact h.1, cn_of_not ?_⟩
  have := h.2.1
  unfold Fin64 at this
  rw [isn64]; exact decide_eq_false (by omega)

theorem is_same {x X p : Nat} (h : Is .f64 x X) (hb : Bd X p) : x = X := by
  by_cases hn : isn .f64 x = true
  · have h1 : X = qn .f64 := by rw [← h.2]; exact cn_of hn
    have h2 := hb.2.1
    rw [h1] at h2
    exact absurd h2 (by unfold Fin64; decide +kernel)
  · rw [← h.2]; exact (cn_of_not (by simpa using hn)).symm

theorem toI_ok {X p : Nat} (h : Bd X p) (hp : p ≤ 1136) : floatToIntVal .f64 X .i64 = some (toI X) ∧ (toI X).natAbs * 2 ^ 1074 ≤ mv X := by
  obtain ⟨m, i, h1, h2, h3, _⟩ := h.2.1.read
  have hc := (cut_low .zero (sg X) (m <<< i.toNat) (-i).toNat).2
  have b := cut_mag h2 h3
  rw [← hc] at b
  have e : (double.read X).toInt .zero = some (signed (sg X) (Toward.zero.cut (sg X) (m <<< i.toNat) (-i).toNat) 0) := by rw [h1]; rfl
  generalize Toward.zero.cut (sg X) (m <<< i.toNat) (-i).toNat = c at *
  have hc2 : c ≤ 2 ^ 62 := by
    have d := Nat.le_trans b (Nat.le_trans h.2.2 (two_pow_le hp))
    rw [show (1136 : Nat) = 62 + 1074 by omega, Nat.pow_add] at d
    exact Nat.le_of_mul_le_mul_right d (Nat.two_pow_pos _)
  rw [show (2 : Nat) ^ 62 = 4611686018427387904 by decide] at hc2
  have hs : (signed (sg X) c 0).natAbs = c := by unfold signed; rw [Nat.shiftLeft_zero]; split <;> omega
  have hi : toI X = signed (sg X) c 0 := by unfold toI; rw [e]; rfl
  constructor
  · unfold floatToIntVal
    show (match (double.read X).toInt .zero with | some n => _ | none => _) = _
    rw [e, hi]
    have k1 : IntKind.i64.min = -9223372036854775808 := by decide
    have k2 : IntKind.i64.max = 9223372036854775807 := by decide
    simp only [k1, k2]
    rw [if_pos (by omega)]
  · rw [hi, hs]; exact b

section
variable {P : Program} {ops : Array Oper} {rest : List Oper} {a : Act} {Q : Exit → Act → World → Prop} {w : World} {dst : Option Tmp} {ty : TypeId} {pos : String} {after : Array Edge} {guard : Option (Nat × Bool)} {x y : Operand} {t t' : TypeId}

theorem run_cut (nm : String) (way : Toward) {X p : Nat} (h : Bd X p) (w : World) : (Extern.MathFloor.toIntegral nm way #[.float .f64 X]).run P w = .ok (.float .f64 (fcut way X)) w := by
  obtain ⟨m, i, h1, h2, h3, _⟩ := h.2.1.read
  have hr : FloatKind.f64.decode X = .number (sg X) m i := h1
  unfold fcut
  rw [h1]
  have e : Extern.MathFloor.toIntegral nm way #[.float .f64 X] = (match FloatKind.f64.decode X with
    | .nan s t =>
      if FloatKind.f64.format.quiet t = t then pure (.float .f64 X) else do
      let kept ← choose (.extern "math.Floor,Ceil,Trunc,RoundToEven.signallingNaN kept" 2)
      pure (.float .f64 (if kept == 1 then X else FloatKind.f64.encode (.nan s (FloatKind.f64.format.quiet t))))
    | d => pure (.float .f64 (FloatKind.f64.encode (d.integral way)))) := rfl
  rw [e, hr]
  rfl

/-- a call of the body-less 'math.archFloor' or 'math.archTrunc' -/
theorem wpList_cut (nm : String) (way : Toward) {f : FuncId} {ats : Array TypeId} {fn : Func} (hf : P.funcs[f]? = some fn) (h1 : (fn.name == "runtime.NumGoroutine") = false)
    (h2 : fn.body.isNone = true) (h3 : Extern.findNext fn = none) (h4 : Extern.find fn = some (Extern.MathFloor.toIntegral nm way)) {bx X p : Nat}
    (hw : Region.wanted ⟨dst, .call { callee := .value (.func f), args := #[x], argTypes := ats }, ty, pos, after, guard⟩ (yielded ops a.tmps) = true) (ex : a.eval x = .float .f64 bx) (hx : Is .f64 bx X) (hb : Bd X p)
    (hK : wpList P ops Q rest (a.put dst (.float .f64 (fcut way X))) w) :
    wpList P ops Q (⟨dst, .call { callee := .value (.func f), args := #[x], argTypes := ats }, ty, pos, after, guard⟩ :: rest) a w := by
  have hs := is_same hx hb
  subst hs
  refine wpList_run (v := .float .f64 (fcut way bx)) (n := 0) hw ?_ (by rw [World.drewN_zero]; exact hK)
  rw [execOp_call_go]
  have e : (#[] ++ Array.map a.eval #[x] ++ #[] : Array Value) = #[.float .f64 bx] := by simp [ex]
  rw [e, run_callFunc_extern hf h1 h2 h3 h4, run_cut nm way hb, World.drewN_zero]
  rfl

/-- a conversion to a 64-bit integer -/
theorem wpList_toint {src d : TypeId} {us : TypeDesc} (hs : P.underlying src = some us) (hd : P.underlying d = some (.int .i64)) {bx X p : Nat}
    (hw : Region.wanted ⟨dst, .convert src d x, ty, pos, after, guard⟩ (yielded ops a.tmps) = true) (ex : a.eval x = .float .f64 bx) (hx : Is .f64 bx X) (hb : Bd X p) (hp : p ≤ 1136)
    (hK : wpList P ops Q rest (a.put dst (.int .i64 (toI X))) w) :
    wpList P ops Q (⟨dst, .convert src d x, ty, pos, after, guard⟩ :: rest) a w := by
  have h1 := is_same hx hb
  subst h1
  refine wpList_run (v := .int .i64 (toI bx)) (n := 0) hw ?_ (by rw [World.drewN_zero]; exact hK)
  have := run_convert_float_int (P := P) w src d .f64 .i64 bx (toI bx) (by rw [hs]; rfl) hd (toI_ok hb hp).1
  simp [execOp, ex, this, World.drewN_zero]
end
end Go.Fl
end

/-
  PLAIN LAWS: complex numbers whose parts are small whole numbers. (No program here.)
-/
section
set_option exponentiation.threshold 5000
set_option linter.unusedVariables false
set_option linter.unusedSimpArgs false
namespace Go.Fl
open Go Ieee

abbrev fw (p : Int) : Nat := floatOfInt .f32 p
/-- what a table says of each part -/
def partB (p : Int) : Bool := floatToIntVal .f32 (fw p) .i64 == some p && (floatBits .add .f32 (fw p) (fw p)).isSome && feq .f32 (fop .mul .f32 (fw p) 1073741824) (fop .add .f32 (fw p) (fw p))
theorem part_all : (List.range 401).all (fun n => partB ((n : Int) - 200)) = true := by decide +kernel
theorem part_at {p : Int} (h : p.natAbs ≤ 200) : partB p = true := by
  have := (List.all_eq_true.1 part_all) (p + 200).toNat (List.mem_range.2 (by omega))
  rw [show (((p + 200).toNat : Nat) : Int) - 200 = p by omega] at this
  exact this
theorem part_int {p : Int} (h : p.natAbs ≤ 200) : floatToIntVal .f32 (fw p) .i64 = some p := by
  have := part_at h
  unfold partB at this
  rw [Bool.and_eq_true, Bool.and_eq_true, beq_iff_eq] at this
  exact this.1.1
theorem part_add {p : Int} (h : p.natAbs ≤ 200) : floatBits .add .f32 (fw p) (fw p) = some (fop .add .f32 (fw p) (fw p)) := by
  have := part_at h
  unfold partB at this
  rw [Bool.and_eq_true, Bool.and_eq_true] at this
  obtain ⟨r, hr⟩ := Option.isSome_iff_exists.1 this.1.2
  rw [hr, fop_some hr]
theorem part_two {p : Int} (h : p.natAbs ≤ 200) : feq .f32 (fop .mul .f32 (fw p) 1073741824) (fop .add .f32 (fw p) (fw p)) = true := by
  have := part_at h
  unfold partB at this
  rw [Bool.and_eq_true] at this
  exact this.2
theorem sq_nonneg (a : Int) : 0 ≤ a * a := by
  have := @Int.natAbs_mul_self a
  omega
theorem sq_zero {a : Int} (h : a * a = 0) : a = 0 := by
  rcases Int.mul_eq_zero.1 h with g | g <;> exact g
theorem vp {p : Int} (h : p.natAbs ≤ 200) : V32 (fw p) p := V32.ofInt p (by omega)
theorem mul_le {a b : Int} (ha : a.natAbs ≤ 200) (hb : b.natAbs ≤ 200) : (a * b).natAbs ≤ 40000 := by
  rw [Int.natAbs_mul]
  exact Nat.mul_le_mul ha hb
section
variable {p q r s : Int}
theorem mul_re {A B C D : Nat} (hA : V32 A p) (hB : V32 B q) (hC : V32 C r) (hD : V32 D s) (hp : p.natAbs ≤ 200) (hq : q.natAbs ≤ 200) (hr : r.natAbs ≤ 200) (hs : s.natAbs ≤ 200) :
    V64 (fop .sub .f64 (fop .mul .f64 (wid A) (wid C)) (fop .mul .f64 (wid B) (wid D))) (p * r - q * s) := by
  have h1 := mul_le hp hr
  have h2 := mul_le hq hs
  exact (hA.wid.mul hC.wid (by omega)).sub (hB.wid.mul hD.wid (by omega)) (by omega)
theorem mul_im {A B C D : Nat} (hA : V32 A p) (hB : V32 B q) (hC : V32 C r) (hD : V32 D s) (hp : p.natAbs ≤ 200) (hq : q.natAbs ≤ 200) (hr : r.natAbs ≤ 200) (hs : s.natAbs ≤ 200) :
    V64 (fop .add .f64 (fop .mul .f64 (wid A) (wid D)) (fop .mul .f64 (wid B) (wid C))) (p * s + q * r) := by
  have h1 := mul_le hp hs
  have h2 := mul_le hq hr
  exact (hA.wid.mul hD.wid (by omega)).add (hB.wid.mul hC.wid (by omega)) (by omega)
theorem mul_re_bd (hp : p.natAbs ≤ 200) (hq : q.natAbs ≤ 200) (hr : r.natAbs ≤ 200) (hs : s.natAbs ≤ 200) : (p * r - q * s).natAbs ≤ 80000 ∧ (p * s + q * r).natAbs ≤ 80000 := by
  have h1 := mul_le hp hs
  have h2 := mul_le hq hr
  have h3 := mul_le hp hr
  have h4 := mul_le hq hs
  omega
theorem pow_v {A B : Nat} (hA : V32 A p) (hB : V32 B q) (hp : p.natAbs ≤ 200) (hq : q.natAbs ≤ 200) :
    V64 (fop .add .f64 (fop .mul .f64 (wid A) (wid A)) (fop .mul .f64 (wid B) (wid B))) (p * p + q * q) := by
  have h1 := mul_le hp hp
  have h2 := mul_le hq hq
  exact (hA.wid.mul hA.wid (by omega)).add (hB.wid.mul hB.wid (by omega)) (by omega)
theorem big_mul {a b : Int} {m n : Nat} (ha : a.natAbs ≤ m) (hb : b.natAbs ≤ n) : (a * b).natAbs ≤ m * n := by
  rw [Int.natAbs_mul]
  exact Nat.mul_le_mul ha hb
/-- the quotient leads back -/
theorem quo_v {X Y C D : Nat} (hX : V32 X (p * r - q * s)) (hY : V32 Y (p * s + q * r)) (hC : V32 C r) (hD : V32 D s) (hp : p.natAbs ≤ 200) (hq : q.natAbs ≤ 200) (hr : r.natAbs ≤ 200) (hs : s.natAbs ≤ 200) (h0 : ¬ (r = 0 ∧ s = 0)) :
    V64 (fop .quo .f64 (fop .sub .f64 (fop .mul .f64 (wid X) (wid C)) (fop .mul .f64 (wid Y) (fneg .f64 (wid D)))) (fop .add .f64 (fop .mul .f64 (wid C) (wid C)) (fop .mul .f64 (wid D) (wid D)))) p ∧
    V64 (fop .quo .f64 (fop .add .f64 (fop .mul .f64 (wid X) (fneg .f64 (wid D))) (fop .mul .f64 (wid Y) (wid C))) (fop .add .f64 (fop .mul .f64 (wid C) (wid C)) (fop .mul .f64 (wid D) (wid D)))) q := by
  obtain ⟨b1, b2⟩ := mul_re_bd hp hq hr hs
  have hn0 : r * r + s * s ≠ 0 := by
    intro e
    have h1 := sq_nonneg r
    have h2 := sq_nonneg s
    have e1 : r * r = 0 := by omega
    have e2 : s * s = 0 := by omega
    exact h0 ⟨sq_zero e1, sq_zero e2⟩
  have hby := pow_v hC hD hr hs
  have hns : (-s).natAbs ≤ 200 := by omega
  have c1 := big_mul b1 hr
  have c2 := big_mul b2 hns
  have c3 := big_mul b1 hns
  have c4 := big_mul b2 hr
  have d1 := (hX.wid.mul hC.wid (by omega)).sub (hY.wid.mul hD.wid.neg (by omega)) (by omega)
  have d2 := (hX.wid.mul hD.wid.neg (by omega)).add (hY.wid.mul hC.wid (by omega)) (by omega)
  have e1 : (p * r - q * s) * r - (p * s + q * r) * (-s) = p * (r * r + s * s) := by
    rw [Int.sub_mul, Int.add_mul, Int.mul_add, Int.mul_neg, Int.mul_neg]
    have f1 : p * r * r = p * (r * r) := Int.mul_assoc _ _ _
    have f2 : p * s * s = p * (s * s) := Int.mul_assoc _ _ _
    have f3 : q * s * r = q * r * s := by rw [Int.mul_assoc, Int.mul_assoc, Int.mul_comm s r]
    omega
  have e2 : (p * r - q * s) * (-s) + (p * s + q * r) * r = q * (r * r + s * s) := by
    rw [Int.sub_mul, Int.add_mul, Int.mul_add, Int.mul_neg, Int.mul_neg]
    have f1 : q * r * r = q * (r * r) := Int.mul_assoc _ _ _
    have f2 : q * s * s = q * (s * s) := Int.mul_assoc _ _ _
    have f3 : p * s * r = p * r * s := by rw [Int.mul_assoc, Int.mul_assoc, Int.mul_comm s r]
    omega
  rw [e1] at d1
  rw [e2] at d2
  exact ⟨d1.quo hby hn0 (by omega), d2.quo hby hn0 (by omega)⟩
/-- the long of a number is the root of its power -/
theorem pow_word (hp : p.natAbs ≤ 200) (hq : q.natAbs ≤ 200) : fop .add .f64 (fop .mul .f64 (wid (fw p)) (wid (fw p))) (fop .mul .f64 (wid (fw q)) (wid (fw q))) = wid (fw (p * p + q * q)) := by
  have h1 := mul_le hp hp
  have h2 := mul_le hq hq
  by_cases h0 : p * p + q * q = 0
  · have g1 := sq_nonneg p
    have g2 := sq_nonneg q
    have e1 : p * p = 0 := by omega
    have e2 : q * q = 0 := by omega
    obtain rfl : p = 0 := sq_zero e1
    obtain rfl : q = 0 := sq_zero e2
    decide +kernel
  · exact (pow_v (vp hp) (vp hq) hp hq).same (V32.ofInt _ (by omega)).wid h0
end
section
variable {P : Program}
theorem run_cneq (w : World) (t : TypeId) {a A b B c C d D : Nat} {v : Bool} (ha : Is .f32 a A) (hb : Is .f32 b B) (hc : Is .f32 c C) (hd : Is .f32 d D) (hv : (!(feq .f32 A C && feq .f32 B D)) = v) :
    (binOp .neq t (.complex .f32 a b) (.complex .f32 c d)).run P w = .ok (.bool v) w := by
  unfold feq at hv
  have e1 := ord_is ha hc
  have e2 := ord_is hb hd
  subst hv
  rw [← e1, ← e2]
  simp only [binOp, ne_eq, not_true_eq_false, if_false, Op.complexOp, Op.Complex.cmp, Op.floatCmp]
  simp [asBool]
theorem fneg_fneg {X : Nat} (h : Can .f32 X) : fneg .f32 (fneg .f32 X) = X := by
  have hlt := can32_lt h
  cases hn : isn .f32 X with
  | true => rw [h.nan hn]; decide +kernel
  | false =>
    have h1 := isn_neg .f32 (X := X) (by rw [w32]; exact hlt)
    have e1 : fneg .f32 X = Op.negFloat .f32 X := by unfold fneg; exact cn_of_not (by rw [h1.1]; exact hn)
    have hlt2 : Op.negFloat .f32 X < 4294967296 := by have := h1.2; rw [w32] at this; exact this
    have h2 := isn_neg .f32 (X := Op.negFloat .f32 X) (by rw [w32]; exact hlt2)
    rw [e1]
    have e2 : fneg .f32 (Op.negFloat .f32 X) = Op.negFloat .f32 (Op.negFloat .f32 X) := by unfold fneg; exact cn_of_not (by rw [h2.1, h1.1]; exact hn)
    rw [e2, neg32 hlt2, neg32 hlt]
    by_cases g : 2147483648 ≤ X
    · rw [if_pos g, if_neg (by omega)]; omega
    · rw [if_neg g, if_pos (by omega)]; omega
end
end Go.Fl
end

/-
  CONTRACTS: numbers out of bytes.
-/
section
set_option linter.unusedSimpArgs false
set_option linter.unusedVariables false
namespace Go.Proofs.YtianaalokclklaaGreatDoor
open Go.RowKit Go.Fl

def AtRet (m : Nat) (w : World) (e : Ending) (w' : World) : Prop := ∃ r : Nat, e = .returned (.int .i64 (r : Int)) ∧ r < m ∧ w = w'
theorem at_mk {m : Nat} {z : Int} (w : World) (h : 0 ≤ z) (h' : z < (m : Int)) : AtRet m w (.returned (.int .i64 z)) w :=
  ⟨z.toNat, by rw [Int.toNat_of_nonneg h], by omega, rfl⟩

theorem b10At_any (w : World) (ao : Option Addr) (n c : Nat) (z : Nat → Int) (hA : IRow .u8 w ao n z) (i : Nat) (hi : i < 10) (m : Nat) (hm : 2 ≤ m) (hm' : m ≤ 1000) (hn : n ≤ 1048576) :
    Calls Tryz.prog 16 #[.slice ao n c, .int .i64 (i : Int), .int .i64 (m : Int)] w (AtRet m w) := by
  have hA' := Lib.hid hA
  clear hA
  by_cases hlt : i < n
  · obtain ⟨b, off, rfl, hb, hcell⟩ := hA'.out.at0 (by omega)
    have h1 := hcell i hlt
    clear hcell
    have hz := u8_wf (hA'.out.wf i hlt)
    obtain ⟨hz1, hz2⟩ := hz
    go_enter Tryz.func16, Tryz.ntmps16
    go_wp2
    go_ret
    exact at_mk _ (Int.emod_nonneg _ (by omega)) (Int.emod_lt_of_pos _ (by omega))
  · go_enter Tryz.func16, Tryz.ntmps16
    go_wp2
    go_ret
    exact at_mk _ (Int.emod_nonneg _ (by omega)) (Int.emod_lt_of_pos _ (by omega))
theorem b10Long_any (w : World) (ao bo : Option Addr) (n c m d : Nat) (hn : n ≤ 1048576) (hm : m ≤ 1048576) :
    Calls Tryz.prog 5 #[.slice ao n c, .slice bo m d] w (fun e w' => e = .returned (.bool false) ∧ w = w') := by
  go_enter Tryz.func5, Tryz.ntmps5
  go_wp2
  all_goals go_ret
  all_goals first
    | exact ⟨rfl, rfl⟩
    | exact ⟨ret_bool (by simp; omega), rfl⟩
theorem b10Long_yes (w : World) (ao bo : Option Addr) (n c m d : Nat) (hn : 1048576 < n ∨ 1048576 < m) :
    Calls Tryz.prog 5 #[.slice ao n c, .slice bo m d] w (fun e w' => e = .returned (.bool true) ∧ w = w') := by
  go_enter Tryz.func5, Tryz.ntmps5
  go_wp2
  all_goals go_ret
  all_goals first
    | exact ⟨rfl, rfl⟩
    | exact ⟨ret_bool (by simp; omega), rfl⟩
end Go.Proofs.YtianaalokclklaaGreatDoor
end
