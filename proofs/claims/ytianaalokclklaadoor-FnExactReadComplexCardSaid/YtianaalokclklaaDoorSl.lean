/-
  SLICES OF 32-BIT NUMBERS: what is known of one in a world; one that came in, opened. (No program here.)
-/
import Derived.Test.YtianaalokclklaaDoorLaw2
import Derived.Deep.Slices
import Derived.ProofKit
set_option linter.unusedVariables false
set_option linter.unusedSimpArgs false
namespace Go.Fl
open Go Ieee Go.ChangeShapes Go.WideShapes

/-- '.slice ao n c' reads as the words 'xs' in 'w' -/
structure FRow (w : World) (ao : Option Addr) (n : Nat) (xs : List Nat) : Prop where
  len : xs.length = n
  at0 : 0 < n → ∃ b off, ao = some ⟨b, off, none⟩ ∧ b < w.heap.size ∧ ∀ i, i < n → w.cell? ⟨b, off + i, none⟩ = some (.float .f32 (xs.getD i 0))
  wf : ∀ i, i < n → xs.getD i 0 < 4294967296

theorem FRow.is {w : World} {ao : Option Addr} {n : Nat} {xs : List Nat} (h : FRow w ao n xs) {i : Nat} (hi : i < n) : Is .f32 (xs.getD i 0) (cn .f32 (xs.getD i 0)) :=
  ⟨by rw [w32]; exact h.wf i hi, rfl⟩

theorem lt_of_cell {w : World} {a : Addr} {v : Value} (h : w.cell? a = some v) : a.block < w.heap.size := by
  unfold World.cell? at h
  cases hb : w.heap[a.block]? with
  | none => rw [hb] at h; cases h
  | some o => exact (Array.getElem?_eq_some_iff.1 hb).1

/-- in a world in which old memory stands as it was, it reads as it did -/
theorem FRow.below {w w' : World} {ao : Option Addr} {n : Nat} {xs : List Nat} (h : FRow w ao n xs) {B : Nat} (hB : w.heap.size ≤ B) (hb : RowKit.Below B w w') : FRow w' ao n xs := by
  refine ⟨h.len, fun hn => ?_, h.wf⟩
  obtain ⟨b, off, h1, h2, h3⟩ := h.at0 hn
  refine ⟨b, off, h1, Nat.lt_of_lt_of_le h2 hb.size, fun i hi => ?_⟩
  rw [hb.cell (p := ⟨b, off + i, none⟩) (by show b < B; omega)]
  exact h3 i hi

theorem FRow.drewN {w : World} {ao : Option Addr} {n : Nat} {xs : List Nat} (h : FRow w ao n xs) (q : Nat) : FRow (w.drewN q) ao n xs := ⟨h.len, h.at0, h.wf⟩

section
variable {H : Type} {enc : TypeId × Value → H} {P : Program} {W : World}

/-- a slice of 32-bit numbers that came in -/
theorem open_frow {t e : TypeId} {v : Value} {d : DataW H} {ps : List MemPlace} {r : Reach} {b0 : Nat} (ht : P.underlying t = some (.slice e)) (he : P.underlying e = some (.float .f32)) (hc : P.cellsOf e = 1)
    (hv : Value.okWide P W r b0 t v) (h : DataW.Trod enc P W 0 (fun _ => true) true t v d ps) :
    ∃ ao n c xs, v = .slice ao n c ∧ FRow W ao n xs ∧ n ≤ c ∧ c ≤ maxLen := by
  obtain ⟨ao, n, c, rfl⟩ := okWide_slice ht hv
  obtain ⟨fuel, hf⟩ := h
  rcases Deep.open_slice1 ht hc hf with ⟨h0, _⟩ | ⟨a, len, cap, m, k, V, D, Pl, h0, hb, hl, hm, hmm, hx, hi⟩
  · simp [Value.cells] at h0
    obtain ⟨rfl, rfl, rfl⟩ := h0
    exact ⟨none, 0, 0, [], rfl, ⟨rfl, fun h => absurd h (by omega), fun i h => absurd h (by omega)⟩, Nat.le_refl _, by simp [maxLen]⟩
  · simp [Value.cells] at h0
    obtain ⟨rfl, rfl, rfl⟩ := h0
    simp at hmm
    have each : ∀ i, i < n → ∃ x, V i = .float .f32 x ∧ x < 4294967296 := by
      intro i hi'
      obtain ⟨_, h2⟩ := hi i (by omega)
      cases k with
      | zero => simp [DataW.trod] at h2
      | succ k =>
        simp only [DataW.trod, he] at h2
        cases hV : V i <;> rw [hV] at h2 <;> simp at h2
        rename_i kk b
        obtain ⟨rfl, h3⟩ := h2.1
        exact ⟨b, rfl, by simpa [Lit.wf] using h3⟩
    obtain ⟨f, hf'⟩ := Deep.choose_lt (α := Nat) (p := fun i x => V i = .float .f32 x ∧ x < 4294967296) each
    refine ⟨some a, n, c, (List.range n).map f, rfl, ⟨by simp, fun hn => ?_, fun i hi' => ?_⟩, hl, hm⟩
    · obtain ⟨b, off, spot⟩ := a
      have h00 := (hi 0 (by omega)).1
      have hspot : spot = none := by simpa [Addr.add] using World.cell?_spot h00
      subst hspot
      refine ⟨b, off, rfl, ?_, fun i hi' => ?_⟩
      · have := lt_of_cell h00
        simpa [Addr.add] using this
      · have h1 := (hi i (by omega)).1
        rw [(hf' i hi').1] at h1
        have e : ((List.range n).map f).getD i 0 = f i := by simp [List.getD, hi']
        rw [e, ← h1]
        congr 1
        unfold Addr.add
        split
        · rename_i h; simp [h]
        · rfl
    · have e : ((List.range n).map f).getD i 0 = f i := by simp [List.getD, hi']
      rw [e]; exact (hf' i hi').2
end


/-- of what was there before nothing has turned -/
def Bel (w w' : World) : Prop := RowKit.Below w.heap.size w w'
theorem Bel.refl (w : World) : Bel w w := RowKit.Below.refl _ _
theorem Bel.trans {a b c : World} (h : Bel a b) (k : Bel b c) : Bel a c := RowKit.Below.trans h (RowKit.Below.mono k h.size)
theorem Bel.drewN {a b : World} (h : Bel a b) (n : Nat) : Bel a (b.drewN n) := Bel.trans h ((Dr.refl _).drewN n |>.below _)
theorem Bel.dr {a b c : World} (h : Bel a b) (k : Dr b c) : Bel a c := Bel.trans h (k.below _)
theorem FRow.bel {w w' : World} {ao : Option Addr} {n : Nat} {xs : List Nat} (h : FRow w ao n xs) (hb : Bel w w') : FRow w' ao n xs := h.below (Nat.le_refl _) hb

end Go.Fl
