/-
  A STRUCT OF TWO INTEGERS AND A SLICE OF 32-BIT NUMBERS THAT CAME IN, opened. (No program here.)
-/
import Derived.Test.YtobghfjkkkfecaaSb
import Derived.Lib.SmallJoins
set_option linter.unusedVariables false
set_option linter.unusedSimpArgs false
namespace Go.Fl
open Go Ieee Go.ChangeShapes Go.WideShapes
section
variable {H : Type} {enc : TypeId × Value → H} {P : Program} {W : World}

theorem open_frow1 {t e : TypeId} {v : Value} {fuel : Nat} {y : DataW H × List MemPlace} (ht : P.underlying t = some (.slice e)) (he : P.underlying e = some (.float .f32)) (hc : P.cellsOf e = 1)
    (hf : DataW.trod enc P W 0 (fun _ => true) true fuel t [v] = some y) :
    ∃ ao n c xs, v = .slice ao n c ∧ FRow W ao n xs ∧ n ≤ c ∧ c ≤ maxLen := by
  rcases Deep.open_slice1 ht hc hf with ⟨h0, _⟩ | ⟨a, len, cap, m, k, V, D, Pl, h0, hb, hl, hm, hmm, hx, hi⟩
  · simp at h0
    subst h0
    exact ⟨none, 0, 0, [], rfl, ⟨rfl, fun h => absurd h (by omega), fun i h => absurd h (by omega)⟩, Nat.le_refl _, by simp [maxLen]⟩
  · simp at h0
    subst h0
    simp at hmm
    have each : ∀ i, i < len → ∃ x, V i = .float .f32 x ∧ x < 4294967296 := by
      intro i hi'
      obtain ⟨_, h2⟩ := hi i (by omega)
      cases k with
      | zero => simp [DataW.trod] at h2
      | succ k =>
        simp only [DataW.trod, he] at h2
        cases hV : V i <;> rw [hV] at h2 <;> simp at h2
        rename_i kk b
        obtain ⟨rfl, h3⟩ := h2.1
        exact ⟨b, rfl, by simpa [Lit.wf] using h3⟩
    obtain ⟨f, hf'⟩ := Deep.choose_lt (α := Nat) (p := fun i x => V i = .float .f32 x ∧ x < 4294967296) each
    refine ⟨some a, len, cap, (List.range len).map f, rfl, ⟨by simp, fun hn => ?_, fun i hi' => ?_⟩, hl, hm⟩
    · obtain ⟨b, off, spot⟩ := a
      have h00 := (hi 0 (by omega)).1
      have hspot : spot = none := by simpa [Addr.add] using World.cell?_spot h00
      subst hspot
      refine ⟨b, off, rfl, ?_, fun i hi' => ?_⟩
      · have := lt_of_cell h00
        simpa [Addr.add] using this
      · have h1 := (hi i (by omega)).1
        rw [(hf' i hi').1] at h1
        have e : ((List.range len).map f).getD i 0 = f i := by simp [List.getD, hi']
        rw [e, ← h1]
        congr 1
        unfold Addr.add
        split
        · rename_i h; simp [h]
        · rfl
    · have e : ((List.range len).map f).getD i 0 = f i := by simp [List.getD, hi']
      rw [e]; exact (hf' i hi').2

theorem open_int1 {t : TypeId} {v : Value} {fuel : Nat} {y : DataW H × List MemPlace} {k : IntKind} (ht : P.underlying t = some (.int k))
    (hf : DataW.trod enc P W 0 (fun _ => true) true fuel t [v] = some y) : ∃ x, v = .int k x ∧ (Lit.int k x).wf = true := by
  cases fuel with
  | zero => simp [DataW.trod] at hf
  | succ fuel =>
    simp only [DataW.trod, ht] at hf
    cases v <;> simp at hf
    rename_i k2 b
    obtain ⟨rfl, h3⟩ := hf.1
    exact ⟨b, rfl, by simpa using h3⟩

theorem open_hill {t : TypeId} {f0 f1 f2 : Field} {e : TypeId} {v : Value} {d : DataW H} {ps : List MemPlace} {r : Reach} {b0 : Nat} (hs : P.underlying t = some (.struct #[f0, f1, f2])) (hone : Deep.oneCellFields P #[f0, f1, f2] = true) (hC : P.cellsOf t = 3)
    (h0 : P.underlying f0.type = some (.int .i64)) (h1 : P.underlying f1.type = some (.int .i64)) (h2 : P.underlying f2.type = some (.slice e)) (he : P.underlying e = some (.float .f32)) (hc : P.cellsOf e = 1)
    (hv : Value.okWide P W r b0 t v) (h : DataW.Trod enc P W 0 (fun _ => true) true t v d ps) :
    ∃ X Y ao n c xs, v = .agg #[.int .i64 X, .int .i64 Y, .slice ao n c] ∧ FRow W ao n xs ∧ n ≤ maxLen ∧ (Lit.int .i64 X).wf = true ∧ (Lit.int .i64 Y).wf = true := by
  obtain ⟨v0, v1, v2, y0, y1, y2, n, rfl, rfl, rfl, k0, k1, k2⟩ := Joins.open_agg3 hs hone hC hv h
  obtain ⟨X, rfl, w0⟩ := open_int1 h0 k0
  obtain ⟨Y, rfl, w1⟩ := open_int1 h1 k1
  obtain ⟨ao, n, c, xs, rfl, hF, hl, hm⟩ := open_frow1 h2 he hc k2
  exact ⟨X, Y, ao, n, c, xs, rfl, hF, Nat.le_trans hl hm, w0, w1⟩
end
end Go.Fl
