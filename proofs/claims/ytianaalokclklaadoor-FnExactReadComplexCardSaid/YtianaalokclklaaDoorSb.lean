/-
  SLICES OF INTEGERS: what is known of one in a world; one that came in, opened. (No program here.)
-/
import Derived.Test.YtianaalokclklaaDoorSl
set_option linter.unusedVariables false
set_option linter.unusedSimpArgs false
namespace Go.Fl
open Go Ieee Go.ChangeShapes Go.WideShapes

/-- '.slice ao n c' reads as the integers 'z 0 .. z (n - 1)' in 'w' -/
structure IRow (k : IntKind) (w : World) (ao : Option Addr) (n : Nat) (z : Nat → Int) : Prop where
  at0 : 0 < n → ∃ b off, ao = some ⟨b, off, none⟩ ∧ b < w.heap.size ∧ ∀ i, i < n → w.cell? ⟨b, off + i, none⟩ = some (.int k (z i))
  wf : ∀ i, i < n → (Lit.int k (z i)).wf = true

theorem IRow.below {k : IntKind} {w w' : World} {ao : Option Addr} {n : Nat} {z : Nat → Int} (h : IRow k w ao n z) {B : Nat} (hB : w.heap.size ≤ B) (hb : RowKit.Below B w w') : IRow k w' ao n z := by
  refine ⟨fun hn => ?_, h.wf⟩
  obtain ⟨b, off, h1, h2, h3⟩ := h.at0 hn
  refine ⟨b, off, h1, Nat.lt_of_lt_of_le h2 hb.size, fun i hi => ?_⟩
  rw [hb.cell (p := ⟨b, off + i, none⟩) (by show b < B; omega)]
  exact h3 i hi
theorem IRow.drewN {k : IntKind} {w : World} {ao : Option Addr} {n : Nat} {z : Nat → Int} (h : IRow k w ao n z) (q : Nat) : IRow k (w.drewN q) ao n z := ⟨h.at0, h.wf⟩
theorem IRow.bel {k : IntKind} {w w' : World} {ao : Option Addr} {n : Nat} {z : Nat → Int} (h : IRow k w ao n z) (hb : Bel w w') : IRow k w' ao n z := h.below (Nat.le_refl _) hb

theorem u8_wf {z : Int} (h : (Lit.int .u8 z).wf = true) : 0 ≤ z ∧ z ≤ 255 := by
  unfold Lit.wf at h
  rw [Bool.and_eq_true, decide_eq_true_eq, decide_eq_true_eq] at h
  exact h
theorem i64_wf {z : Int} (h : (Lit.int .i64 z).wf = true) : -9223372036854775808 ≤ z ∧ z ≤ 9223372036854775807 := by
  unfold Lit.wf at h
  rw [Bool.and_eq_true, decide_eq_true_eq, decide_eq_true_eq] at h
  exact h

section
variable {H : Type} {enc : TypeId × Value → H} {P : Program} {W : World}

/-- a slice of integers that came in -/
theorem open_irow {k : IntKind} {t e : TypeId} {v : Value} {d : DataW H} {ps : List MemPlace} {r : Reach} {b0 : Nat} (ht : P.underlying t = some (.slice e)) (he : P.underlying e = some (.int k)) (hc : P.cellsOf e = 1)
    (hv : Value.okWide P W r b0 t v) (h : DataW.Trod enc P W 0 (fun _ => true) true t v d ps) :
    ∃ ao n c z, v = .slice ao n c ∧ IRow k W ao n z ∧ n ≤ c ∧ c ≤ maxLen := by
  obtain ⟨ao, n, c, rfl⟩ := okWide_slice ht hv
  obtain ⟨fuel, hf⟩ := h
  rcases Deep.open_slice1 ht hc hf with ⟨h0, _⟩ | ⟨a, len, cap, m, kk, V, D, Pl, h0, hb, hl, hm, hmm, hx, hi⟩
  · simp [Value.cells] at h0
    obtain ⟨rfl, rfl, rfl⟩ := h0
    exact ⟨none, 0, 0, fun _ => 0, rfl, ⟨fun h => absurd h (by omega), fun i h => absurd h (by omega)⟩, Nat.le_refl _, by simp [maxLen]⟩
  · simp [Value.cells] at h0
    obtain ⟨rfl, rfl, rfl⟩ := h0
    simp at hmm
    have each : ∀ i, i < n → ∃ x, V i = .int k x ∧ (Lit.int k x).wf = true := by
      intro i hi'
      obtain ⟨_, h2⟩ := hi i (by omega)
      cases kk with
      | zero => simp [DataW.trod] at h2
      | succ kk =>
        simp only [DataW.trod, he] at h2
        cases hV : V i <;> rw [hV] at h2 <;> simp at h2
        rename_i k2 b
        obtain ⟨rfl, h3⟩ := h2.1
        exact ⟨b, rfl, by simpa using h3⟩
    obtain ⟨f, hf'⟩ := Deep.choose_lt (α := Int) (p := fun i x => V i = .int k x ∧ (Lit.int k x).wf = true) each
    refine ⟨some a, n, c, f, rfl, ⟨fun hn => ?_, fun i hi' => (hf' i hi').2⟩, hl, hm⟩
    obtain ⟨b, off, spot⟩ := a
    have h00 := (hi 0 (by omega)).1
    have hspot : spot = none := by simpa [Addr.add] using World.cell?_spot h00
    subst hspot
    refine ⟨b, off, rfl, ?_, fun i hi' => ?_⟩
    · have := lt_of_cell h00
      simpa [Addr.add] using this
    · have h1 := (hi i (by omega)).1
      rw [(hf' i hi').1] at h1
      rw [← h1]
      congr 1
      unfold Addr.add
      split
      · rename_i h; simp [h]
      · rfl
end

end Go.Fl
