/-
  ROWS OF INTEGERS OF THE CALL's OWN: copied, marked. (No program here.)
-/
import Derived.Test.YtianaalokclklaaDoorSb
import Derived.Test.YtianaalokclklaaDoorHl
set_option linter.unusedVariables false
set_option linter.unusedSimpArgs false
namespace Go.Fl
open Go Ieee Go.RowKit

theorem IRow.alloc {k : IntKind} {w : World} {ao : Option Addr} {n : Nat} {z : Nat → Int} (h : IRow k w ao n z) (o : Obj) : IRow k (w.alloc o) ao n z := h.bel ((Bel.refl w).alloc o)
theorem IRow.only {k : IntKind} {w w' : World} {ao bo : Option Addr} {n : Nat} {z : Nat → Int} (h : IRow k w ao n z) (ho : Only bo w w') (hd : 0 < n → ∀ a b, ao = some a → bo = some b → b.block ≠ a.block) : IRow k w' ao n z := by
  refine ⟨fun hn => ?_, h.wf⟩
  obtain ⟨b, off, h1, h2, h3⟩ := h.at0 hn
  refine ⟨b, off, h1, by rw [ho.size]; exact h2, fun i hi => ?_⟩
  rw [World.cell?_of_block (w := w) (a := ⟨b, off + i, none⟩) (ho.block b (fun a ha => hd hn _ _ h1 ha))]
  exact h3 i hi
/-- a row of integers of the call's own, in a block from 'lo' on and below 'hi' -/
structure IORow (lo hi : Nat) (w : World) (ao : Option Addr) (n : Nat) (z : Nat → Int) : Prop where
  row : IRow .i64 w ao n z
  own : ∀ a, ao = some a → lo ≤ a.block ∧ a.block < hi ∧ a.block < w.heap.size ∧ ∀ j, w.frozen? ⟨a.block, j, none⟩ = false
theorem IORow.bel {lo hi : Nat} {w w' : World} {ao : Option Addr} {n : Nat} {z : Nat → Int} (h : IORow lo hi w ao n z) (hb : Bel w w') : IORow lo hi w' ao n z := by
  refine ⟨h.row.bel hb, fun a ha => ?_⟩
  obtain ⟨h1, h2, h3, h4⟩ := h.own a ha
  refine ⟨h1, h2, Nat.lt_of_lt_of_le h3 hb.size, fun j => ?_⟩
  rw [hb.frozen (p := ⟨a.block, j, none⟩) h3]; exact h4 j
theorem IORow.alloc {lo hi : Nat} {w : World} {ao : Option Addr} {n : Nat} {z : Nat → Int} (h : IORow lo hi w ao n z) (o : Obj) : IORow lo hi (w.alloc o) ao n z := h.bel ((Bel.refl w).alloc o)
theorem IORow.mono {lo hi lo' hi' : Nat} {w : World} {ao : Option Addr} {n : Nat} {z : Nat → Int} (h : IORow lo hi w ao n z) (h1 : lo' ≤ lo) (h2 : hi ≤ hi') : IORow lo' hi' w ao n z :=
  ⟨h.row, fun a ha => by obtain ⟨g1, g2, g3, g4⟩ := h.own a ha; exact ⟨Nat.le_trans h1 g1, Nat.lt_of_lt_of_le g2 h2, g3, g4⟩⟩
theorem IORow.only {lo hi : Nat} {w w' : World} {ao bo : Option Addr} {n : Nat} {z : Nat → Int} (h : IORow lo hi w ao n z) (ho : Only bo w w') (hd : ∀ a b, ao = some a → bo = some b → b.block ≠ a.block) : IORow lo hi w' ao n z := by
  refine ⟨h.row.only ho (fun _ => hd), fun a ha => ?_⟩
  obtain ⟨h1, h2, h3, h4⟩ := h.own a ha
  refine ⟨h1, h2, by rw [ho.size]; exact h3, fun j => ?_⟩
  rw [World.frozen?_of_block (w := w) (a := ⟨a.block, j, none⟩) (ho.block a.block (fun b hb => hd _ _ ha hb))]
  exact h4 j
/-- a row under way: the first 'k' of 'n' are copied -/
structure IFill (w wr : World) (n k : Nat) (z : Nat → Int) : Prop where
  below : Bel w wr
  lt : w.heap.size < wr.heap.size
  cells : ∀ j, j < n → wr.cell? ⟨w.heap.size, j, none⟩ = some (.int .i64 (if j < k then z j else 0))
  thaw : ∀ j, wr.frozen? ⟨w.heap.size, j, none⟩ = false
theorem IFill.start (w : World) (n : Nat) (z : Nat → Int) (e : TypeId) : IFill w (w.alloc (.cells (madeCells #[.int .i64 0] n) e)) n 0 z := by
  refine ⟨(Below.refl _ w).alloc (Nat.le_refl _) _, by simp, fun j hj => ?_, fun j => ?_⟩
  · rw [World.cell?_alloc_at _ _ _ _ rfl]
    simp [madeCells, hj, Nat.mod_one]
  · rw [frozen?_alloc_cells]
    unfold World.frozen?
    simp
theorem IFill.next {w wr : World} {n k : Nat} {z : Nat → Int} (h : IFill w wr n k z) (hk : k < n) : IFill w (wr.setCell ⟨w.heap.size, k, none⟩ (.int .i64 (z k))) n (k + 1) z := by
  refine ⟨Below.setCell h.below (Nat.le_refl _) _, by simpa [World.setCell] using h.lt, fun j hj => ?_, fun j => by rw [World.frozen?_setCell]; exact h.thaw j⟩
  by_cases e : k = j
  · subst e
    rw [World.cell?_setCell_same _ _ _ (h.cells k hk), if_pos (by omega)]
  · rw [World.cell?_setCell_other _ _ _ _ (by intro he; cases he; exact e rfl), h.cells j hj]
    by_cases g : j < k
    · rw [if_pos g, if_pos (by omega)]
    · rw [if_neg g, if_neg (by omega)]
theorem IFill.done {w wr : World} {n : Nat} {z : Nat → Int} (h : IFill w wr n n z) (hw : ∀ i, i < n → (Lit.int .i64 (z i)).wf = true) : IORow w.heap.size wr.heap.size wr (some ⟨w.heap.size, 0, none⟩) n z :=
  ⟨⟨fun hn => ⟨w.heap.size, 0, rfl, h.lt, fun i hi => by rw [Nat.zero_add, h.cells i hi, if_pos hi]⟩, hw⟩, fun a ha => by cases ha; exact ⟨Nat.le_refl _, h.lt, h.lt, h.thaw⟩⟩
def IORet (n : Nat) (z : Nat → Int) (w : World) (e : Ending) (w' : World) : Prop := ∃ ao, e = .returned (.slice ao n n) ∧ IORow w.heap.size w'.heap.size w' ao n z ∧ Bel w w'
/-- the marks 'k', 'k + 1', .. -/
def imarks (k : Nat) : Nat → Int := fun i => ((k + i : Nat) : Int)
structure IMFill (b off : Nat) (w wr : World) (n k i : Nat) (z : Nat → Int) : Prop where
  only : Only (some ⟨b, off, none⟩) w wr
  cells : ∀ j, j < n → wr.cell? ⟨b, off + j, none⟩ = some (.int .i64 (if j < i then ((k + j : Nat) : Int) else z j))
  thaw : ∀ j, wr.frozen? ⟨b, j, none⟩ = false
theorem IMFill.start {lo hi b off : Nat} {w : World} {n k : Nat} {z : Nat → Int} (h : IORow lo hi w (some ⟨b, off, none⟩) n z) (hn : 0 < n) : IMFill b off w w n k 0 z := by
  refine ⟨Only.refl _ _, fun j hj => ?_, (h.own _ rfl).2.2.2⟩
  obtain ⟨b', off', h1, h2, h3⟩ := h.row.at0 hn
  cases h1
  rw [h3 j hj, if_neg (by omega)]
theorem IMFill.next {b off : Nat} {w wr : World} {n k i : Nat} {z : Nat → Int} (h : IMFill b off w wr n k i z) (hi' : i < n) : IMFill b off w (wr.setCell ⟨b, off + i, none⟩ (.int .i64 ((k + i : Nat) : Int))) n k (i + 1) z := by
  refine ⟨h.only.setCell _ _, fun j hj => ?_, fun j => by rw [World.frozen?_setCell]; exact h.thaw j⟩
  by_cases e : i = j
  · subst e
    rw [World.cell?_setCell_same _ _ _ (h.cells i hi'), if_pos (by omega)]
  · rw [World.cell?_setCell_other _ _ _ _ (by intro he; have := congrArg Addr.off he; simp at this; omega), h.cells j hj]
    by_cases g : j < i
    · rw [if_pos g, if_pos (by omega)]
    · rw [if_neg g, if_neg (by omega)]
theorem IMFill.done {lo hi b off : Nat} {w wr : World} {n k : Nat} {z : Nat → Int} (h : IMFill b off w wr n k n z) (hO : IORow lo hi w (some ⟨b, off, none⟩) n z) (hk : k + n ≤ 9223372036854775807) : IORow lo hi wr (some ⟨b, off, none⟩) n (imarks k) := by
  obtain ⟨h1, h2, h3, _⟩ := hO.own _ rfl
  have hs := h.only.size
  refine ⟨⟨fun hn => ⟨b, off, rfl, by rw [hs]; exact h3, fun i hi => by rw [h.cells i hi, if_pos hi]; rfl⟩, fun i hi => ?_⟩, fun a ha => ?_⟩
  · unfold Lit.wf imarks
    rw [Bool.and_eq_true, decide_eq_true_eq, decide_eq_true_eq]
    exact ⟨by show (-9223372036854775808 : Int) ≤ _; omega, by show _ ≤ (9223372036854775807 : Int); omega⟩
  · cases ha; exact ⟨h1, h2, by rw [hs]; exact h3, h.thaw⟩
def IMkRet (lo hi : Nat) (ao : Option Addr) (n k : Nat) (w : World) (e : Ending) (w' : World) : Prop :=
  e = .returned (.int .i64 ((k + n : Nat) : Int)) ∧ IORow lo hi w' ao n (imarks k) ∧ Only ao w w'
/-- two rows that are the same so far -/
def eqI (y z : Nat → Int) : Nat → Bool := allB fun i => y i == z i
theorem eqI_self (z : Nat → Int) (n : Nat) : eqI z z n = true := allB_iff.2 fun i _ => beq_self_eq_true _
end Go.Fl
