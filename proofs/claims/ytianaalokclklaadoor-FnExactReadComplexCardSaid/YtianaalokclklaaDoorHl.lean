/-
  WORLDS AND ROWS: what a write to one row leaves as it was; a row of the call's own between two block numbers; tests on all of a row. (No program here.)
-/
import Derived.Test.YtianaalokclklaaDoorSl
import Derived.Deep.OwnRows
set_option linter.unusedVariables false
set_option linter.unusedSimpArgs false
namespace Go.Fl
open Go Ieee Go.RowKit

def allB (p : Nat → Bool) : Nat → Bool
  | 0 => true
  | k + 1 => allB p k && p k
theorem allB_iff {p : Nat → Bool} {n : Nat} : allB p n = true ↔ ∀ i, i < n → p i = true := by
  induction n with
  | zero => simp [allB]
  | succ n ih =>
    simp only [allB, Bool.and_eq_true, ih]
    constructor
    · rintro ⟨h, g⟩ i hi
      by_cases e : i = n
      · subst e; exact g
      · exact h i (by omega)
    · intro h; exact ⟨fun i hi => h i (by omega), h n (by omega)⟩
theorem allB_no {p : Nat → Bool} {n k : Nat} (hk : k < n) (h : p k = false) : allB p n = false := by
  cases g : allB p n
  · rfl
  · rw [allB_iff.1 g k hk] at h; cases h
theorem allB_succ {p : Nat → Bool} {k : Nat} (h : allB p k = true) (g : p k = true) : allB p (k + 1) = true := by simp [allB, h, g]
theorem allB_congr {p q : Nat → Bool} {n : Nat} (h : ∀ i, i < n → p i = q i) : allB p n = allB q n := by
  rw [Bool.eq_iff_iff, allB_iff, allB_iff]
  exact ⟨fun g i hi => by rw [← h i hi]; exact g i hi, fun g i hi => by rw [h i hi]; exact g i hi⟩

/-- all numbers of a row are finite -/
def finB (xs : List Nat) (n : Nat) : Bool := allB (fun i => fin32B (cn .f32 (xs.getD i 0))) n
/-- two rows hold the same numbers -/
def sameB (xs ys : List Nat) (n : Nat) : Bool := allB (fun i => cn .f32 (xs.getD i 0) == cn .f32 (ys.getD i 0)) n

theorem Bel.alloc {a b : World} (h : Bel a b) (o : Obj) : Bel a (b.alloc o) := Below.alloc h h.size o
theorem Bel.setCell {a b : World} (h : Bel a b) {p : Addr} (hp : a.heap.size ≤ p.block) (v : Value) : Bel a (b.setCell p v) := Below.setCell h hp v
theorem FRow.alloc {w : World} {ao : Option Addr} {n : Nat} {xs : List Nat} (h : FRow w ao n xs) (o : Obj) : FRow (w.alloc o) ao n xs := h.bel ((Bel.refl w).alloc o)

/-- what a call that makes memory has done -/
def BRet (v : Value) (w : World) (e : Ending) (w' : World) : Prop := e = .returned v ∧ Bel w w'

/-- but for the block of one row the world is as it was -/
structure Only (ao : Option Addr) (w w' : World) : Prop where
  os : w'.os = w.os
  tape : w'.tape = w.tape
  output : w'.output = w.output
  size : w'.heap.size = w.heap.size
  block : ∀ j, (∀ a, ao = some a → a.block ≠ j) → w'.heap[j]? = w.heap[j]?

theorem Only.refl (ao : Option Addr) (w : World) : Only ao w w := ⟨rfl, rfl, rfl, rfl, fun _ _ => rfl⟩
theorem Only.setCell {b off : Nat} {w wr : World} (h : Only (some ⟨b, off, none⟩) w wr) (j : Nat) (v : Value) : Only (some ⟨b, off, none⟩) w (wr.setCell ⟨b, j, none⟩ v) := by
  refine ⟨h.os, h.tape, h.output, by simpa [World.setCell] using h.size, fun k hk => ?_⟩
  rw [Below.heap_setCell wr ⟨b, j, none⟩ v k (fun e => hk _ rfl e.symm)]
  exact h.block k hk
theorem Only.drewN {ao : Option Addr} {w wr : World} (h : Only ao w wr) (n : Nat) : Only ao w (wr.drewN n) := ⟨h.os, h.tape, h.output, h.size, h.block⟩
theorem Only.below {ao : Option Addr} {w w' : World} (h : Only ao w w') {B : Nat} (hB : ∀ a, ao = some a → B ≤ a.block) : Below B w w' :=
  ⟨h.os, h.tape, h.output, Nat.le_of_eq h.size.symm, fun k hk => h.block k (fun a ha => by have := hB a ha; omega)⟩

/-- a row of the call's own, in a block from 'lo' on and below 'hi' -/
structure ORow (lo hi : Nat) (w : World) (ao : Option Addr) (n : Nat) (xs : List Nat) : Prop where
  row : FRow w ao n xs
  own : ∀ a, ao = some a → lo ≤ a.block ∧ a.block < hi ∧ a.block < w.heap.size ∧ ∀ j, w.frozen? ⟨a.block, j, none⟩ = false

theorem ORow.bel {lo hi : Nat} {w w' : World} {ao : Option Addr} {n : Nat} {xs : List Nat} (h : ORow lo hi w ao n xs) (hb : Bel w w') : ORow lo hi w' ao n xs := by
  refine ⟨h.row.bel hb, fun a ha => ?_⟩
  obtain ⟨h1, h2, h3, h4⟩ := h.own a ha
  refine ⟨h1, h2, Nat.lt_of_lt_of_le h3 hb.size, fun j => ?_⟩
  rw [hb.frozen (p := ⟨a.block, j, none⟩) h3]; exact h4 j
theorem ORow.drewN {lo hi : Nat} {w : World} {ao : Option Addr} {n : Nat} {xs : List Nat} (h : ORow lo hi w ao n xs) (q : Nat) : ORow lo hi (w.drewN q) ao n xs := ⟨h.row.drewN q, h.own⟩
theorem FRow.only {w w' : World} {ao bo : Option Addr} {n : Nat} {xs : List Nat} (h : FRow w ao n xs) (ho : Only bo w w') (hd : 0 < n → ∀ a b, ao = some a → bo = some b → b.block ≠ a.block) : FRow w' ao n xs := by
  refine ⟨h.len, fun hn => ?_, h.wf⟩
  obtain ⟨b, off, h1, h2, h3⟩ := h.at0 hn
  refine ⟨b, off, h1, by rw [ho.size]; exact h2, fun i hi => ?_⟩
  rw [World.cell?_of_block (w := w) (a := ⟨b, off + i, none⟩) (ho.block b (fun a ha => hd hn _ _ h1 ha))]
  exact h3 i hi
theorem ORow.only {lo hi : Nat} {w w' : World} {ao bo : Option Addr} {n : Nat} {xs : List Nat} (h : ORow lo hi w ao n xs) (ho : Only bo w w') (hd : ∀ a b, ao = some a → bo = some b → b.block ≠ a.block) : ORow lo hi w' ao n xs := by
  refine ⟨h.row.only ho (fun _ => hd), fun a ha => ?_⟩
  obtain ⟨h1, h2, h3, h4⟩ := h.own a ha
  refine ⟨h1, h2, by rw [ho.size]; exact h3, fun j => ?_⟩
  rw [World.frozen?_of_block (w := w) (a := ⟨a.block, j, none⟩) (ho.block a.block (fun b hb => hd _ _ ha hb))]
  exact h4 j
/-- rows between other numbers are apart -/
theorem ORow.apart {lo hi lo' hi' : Nat} {w w' : World} {ao bo : Option Addr} {n m : Nat} {xs ys : List Nat} (h : ORow lo hi w ao n xs) (k : ORow lo' hi' w' bo m ys) (hd : hi ≤ lo' ∨ hi' ≤ lo) :
    ∀ a b, ao = some a → bo = some b → b.block ≠ a.block := fun a b ha hb => by
  have := h.own a ha; have := k.own b hb; omega
theorem ORow.nil (lo hi : Nat) (w : World) : ORow lo hi w none 0 [] :=
  ⟨⟨rfl, fun h => absurd h (by omega), fun i h => absurd h (by omega)⟩, fun a h => by cases h⟩

theorem FRow.setOther {w : World} {ao : Option Addr} {n : Nat} {xs : List Nat} (h : FRow w ao n xs) {p : Addr} (hp : ∀ a, ao = some a → a.block ≠ p.block) (v : Value) : FRow (w.setCell p v) ao n xs := by
  refine ⟨h.len, fun hn => ?_, h.wf⟩
  obtain ⟨b, off, h1, h2, h3⟩ := h.at0 hn
  refine ⟨b, off, h1, by simpa [World.setCell] using h2, fun i hi => ?_⟩
  rw [World.cell?_of_block (w := w) (a := ⟨b, off + i, none⟩) (Below.heap_setCell w p v b (hp _ h1))]
  exact h3 i hi
theorem ORow.setOther {lo hi : Nat} {w : World} {ao : Option Addr} {n : Nat} {xs : List Nat} (h : ORow lo hi w ao n xs) {p : Addr} (hp : ∀ a, ao = some a → a.block ≠ p.block) (v : Value) : ORow lo hi (w.setCell p v) ao n xs := by
  refine ⟨h.row.setOther hp v, fun a ha => ?_⟩
  obtain ⟨h1, h2, h3, h4⟩ := h.own a ha
  exact ⟨h1, h2, by simpa [World.setCell] using h3, fun j => by rw [World.frozen?_setCell]; exact h4 j⟩
theorem ORow.setBelow {lo hi : Nat} {w : World} {ao : Option Addr} {n : Nat} {xs : List Nat} (h : ORow lo hi w ao n xs) {p : Addr} (hp : p.block < lo) (v : Value) : ORow lo hi (w.setCell p v) ao n xs :=
  h.setOther (fun a ha => by have := h.own a ha; omega) v
theorem ORow.mono {lo hi lo' hi' : Nat} {w : World} {ao : Option Addr} {n : Nat} {xs : List Nat} (h : ORow lo hi w ao n xs) (h1 : lo' ≤ lo) (h2 : hi ≤ hi') : ORow lo' hi' w ao n xs :=
  ⟨h.row, fun a ha => by obtain ⟨g1, g2, g3, g4⟩ := h.own a ha; exact ⟨Nat.le_trans h1 g1, Nat.lt_of_lt_of_le g2 h2, g3, g4⟩⟩
theorem ORow.alloc {lo hi : Nat} {w : World} {ao : Option Addr} {n : Nat} {xs : List Nat} (h : ORow lo hi w ao n xs) (o : Obj) : ORow lo hi (w.alloc o) ao n xs := h.bel ((Bel.refl w).alloc o)

/-- the marks 'k', 'k + 1', .. as 32-bit numbers -/
def marks (k n : Nat) : List Nat := (List.range n).map fun i => floatOfInt .f32 ((k + i : Nat) : Int)
theorem marks_at {k n i : Nat} (h : i < n) : (marks k n).getD i 0 = floatOfInt .f32 ((k + i : Nat) : Int) := by simp [marks, List.getD, h]
theorem marks_len (k n : Nat) : (marks k n).length = n := by simp [marks]
theorem fi32_lt (n : Int) : floatOfInt .f32 n < 4294967296 := by have := (Is.ofInt .f32 n).1; rw [w32] at this; exact this
theorem fi32_not (n : Int) : isn .f32 (floatOfInt .f32 n) = false := by
  have h : floatOfInt .f32 n = Ieee.single.write (.number (decide (n < 0)) n.natAbs 0) := rfl
  unfold isn FloatKind.decode
  rw [h]
  exact write_not_nan Ieee.single rfl

theorem fne_num {k : FloatKind} {X : Nat} (hn : isn k X = false) : fne k X X = false := by
  cases h : fne k X X
  · rfl
  · rcases (fne_iff k X X).1 h with g | g | g
    · rw [hn] at g; cases g
    · rw [hn] at g; cases g
    · exact absurd rfl g

/-- marking under way: the first 'i' of 'n' are marked -/
structure MFill (lo hi : Nat) (b off : Nat) (w wr : World) (n k i : Nat) (xs : List Nat) : Prop where
  only : Only (some ⟨b, off, none⟩) w wr
  cells : ∀ j, j < n → wr.cell? ⟨b, off + j, none⟩ = some (.float .f32 (if j < i then floatOfInt .f32 ((k + j : Nat) : Int) else xs.getD j 0))
  thaw : ∀ j, wr.frozen? ⟨b, j, none⟩ = false

theorem MFill.start {lo hi b off : Nat} {w : World} {n k : Nat} {xs : List Nat} (h : ORow lo hi w (some ⟨b, off, none⟩) n xs) (hn : 0 < n) : MFill lo hi b off w w n k 0 xs := by
  refine ⟨Only.refl _ _, fun j hj => ?_, (h.own _ rfl).2.2.2⟩
  obtain ⟨b', off', h1, h2, h3⟩ := h.row.at0 hn
  cases h1
  rw [h3 j hj, if_neg (by omega)]
theorem MFill.next {lo hi b off : Nat} {w wr : World} {n k i : Nat} {xs : List Nat} (h : MFill lo hi b off w wr n k i xs) (hi' : i < n) : MFill lo hi b off w (wr.setCell ⟨b, off + i, none⟩ (.float .f32 (floatOfInt .f32 ((k + i : Nat) : Int)))) n k (i + 1) xs := by
  refine ⟨h.only.setCell _ _, fun j hj => ?_, fun j => by rw [World.frozen?_setCell]; exact h.thaw j⟩
  by_cases e : i = j
  · subst e
    rw [World.cell?_setCell_same _ _ _ (h.cells i hi'), if_pos (by omega)]
  · rw [World.cell?_setCell_other _ _ _ _ (by intro he; injection he with h1 h2 h3; omega), h.cells j hj]
    by_cases g : j < i
    · rw [if_pos g, if_pos (by omega)]
    · rw [if_neg g, if_neg (by omega)]
theorem MFill.done {lo hi b off : Nat} {w wr : World} {n k : Nat} {xs : List Nat} (h : MFill lo hi b off w wr n k n xs) (h0 : ORow lo hi w (some ⟨b, off, none⟩) n xs) : ORow lo hi wr (some ⟨b, off, none⟩) n (marks k n) := by
  obtain ⟨g1, g2, g3, g4⟩ := h0.own _ rfl
  refine ⟨⟨marks_len _ _, fun hn => ⟨b, off, rfl, by rw [h.only.size]; exact g3, fun i hi => ?_⟩, fun i hi => by rw [marks_at hi]; exact fi32_lt _⟩, fun a ha => by cases ha; exact ⟨g1, g2, by rw [h.only.size]; exact g3, h.thaw⟩⟩
  rw [h.cells i hi, if_pos hi, marks_at hi]

def MkRet (lo hi : Nat) (ao : Option Addr) (n k : Nat) (w : World) (e : Ending) (w' : World) : Prop :=
  e = .returned (.int .i64 ((k + n : Nat) : Int)) ∧ ORow lo hi w' ao n (marks k n) ∧ Only ao w w'

end Go.Fl
