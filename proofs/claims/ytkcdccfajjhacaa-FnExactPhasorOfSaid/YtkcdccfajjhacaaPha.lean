/-
  PLAIN LAWS: phasors. (No program here.)
-/
import Derived.Test.YtkcdccfajjhacaaSin
set_option exponentiation.threshold 5000
set_option linter.unusedVariables false
set_option linter.unusedSimpArgs false
namespace Go.Fl
open Go Ieee

theorem bd_quarter' : Bd cQuarter 1074 := ⟨by decide, by unfold Fin64; decide, by decide +kernel⟩

/-- what is left of turns lies within 1 -/
theorem frac_bd1 {X : Nat} (h : Bd X 1126) : Bd (frac X) 1074 := by
  have hf := fr_bd h
  unfold frac
  split
  · rename_i g
    rw [flt_fin hf.2.1 zero_fin, zero_val, decide_eq_true_eq] at g
    refine (near_add hf.2.1 bd_c1.2.1).1.bd (by omega) ?_
    have e1 := svd_abs (fop .sub .f64 X (fi (toI X)))
    have e2 := hf.2.2
    have e7 : ((2 : Int) ^ 1074) = ((2 ^ 1074 : Nat) : Int) := by norm_cast
    rw [one_val, e7, Nat.mul_one]
    generalize (2 : Nat) ^ 1074 = a at *
    omega
  · exact hf

/-- quarters taken off -/
def qs : Nat → Nat → Nat → Nat × Nat
  | 0, F, n => (F, n)
  | j + 1, F, n => if fge .f64 F cQuarter then qs j (fop .sub .f64 F cQuarter) (n + 1) else (F, n)
def Qs (F0 j F n : Nat) : Prop := qs j F n = qs 4 F0 0 ∧ F < 18446744073709551616 ∧ Fin64 F ∧ mv F ≤ j * 2 ^ 1072 ∧ n + j = 4
theorem quarter_val : svd cQuarter = 2 ^ 1072 := by decide +kernel
theorem Qs.start {F : Nat} (h : Bd F 1074) : Qs F 4 F 0 := ⟨rfl, h.1, h.2.1, by
  have := h.2.2
  have e : 4 * 2 ^ 1072 = (2 : Nat) ^ 1074 := by decide +kernel
  rw [e]; exact this, rfl⟩
theorem Qs.ge {F0 j F n : Nat} (h : Qs F0 j F n) (hg : fge .f64 F cQuarter = true) : 2 ^ 1072 ≤ mv F ∧ svd F = (mv F : Int) := by
  rw [fge_fin h.2.2.1 bd_quarter'.2.1, decide_eq_true_eq, quarter_val] at hg
  have e7 : ((2 : Int) ^ 1072) = ((2 ^ 1072 : Nat) : Int) := by norm_cast
  have hp : 0 < (2 : Nat) ^ 1072 := Nat.two_pow_pos _
  rw [e7] at hg
  have e1 := svd_abs F
  generalize (2 : Nat) ^ 1072 = a at *
  constructor <;> omega
theorem Qs.pos {F0 j F n : Nat} (h : Qs F0 j F n) (hg : fge .f64 F cQuarter = true) : ∃ i, j = i + 1 := by
  cases j with
  | zero =>
    have h1 := (h.ge hg).1
    have h2 := h.2.2.2.1
    rw [Nat.zero_mul] at h2
    have hp : 0 < (2 : Nat) ^ 1072 := Nat.two_pow_pos _
    generalize (2 : Nat) ^ 1072 = a at *
    omega
  | succ i => exact ⟨i, rfl⟩
theorem Qs.step {F0 j F n : Nat} (h : Qs F0 (j + 1) F n) (hg : fge .f64 F cQuarter = true) : Qs F0 j (fop .sub .f64 F cQuarter) (n + 1) := by
  obtain ⟨g1, g2⟩ := h.ge hg
  obtain ⟨h1, h2, h3, h4, h5⟩ := h
  have hn := (near_sub h3 bd_quarter'.2.1).1
  have e7 : ((2 : Int) ^ 1072) = ((2 ^ 1072 : Nat) : Int) := by norm_cast
  rw [g2, quarter_val, e7] at hn
  obtain ⟨r0, k1, k2⟩ := exists_rung double 1072 j (by rw [bin64]; omega)
  rw [bin64] at k2
  have hr : r0 < 9218868437227405312 := Nat.lt_of_lt_of_le k2 (by decide)
  obtain ⟨w1, w2, w3⟩ := hn
  have hle : (((mv F : Nat) : Int) - ((2 ^ 1072 : Nat) : Int)).natAbs ≤ j * 2 ^ 1072 := by
    rw [Nat.add_mul, Nat.one_mul] at h4
    have key : ∀ (M a P : Nat), a ≤ M → M ≤ P + a → ((M : Int) - (a : Int)).natAbs ≤ P := by intros; omega
    exact key _ _ _ g1 h4
  have := (w3 r0 (Nat.le_of_lt hr)).1 (by rw [k1, Nat.mul_one]; exact hle)
  refine ⟨?_, w1, by unfold Fin64; omega, ?_, by omega⟩
  · rw [← h1]
    show _ = (if fge .f64 F cQuarter then qs j (fop .sub .f64 F cQuarter) (n + 1) else (F, n))
    rw [hg]; rfl
  · rw [← k1]; exact rv_le double this
theorem Qs.stop {F0 j F n : Nat} (h : Qs F0 j F n) (hg : fge .f64 F cQuarter = false) : qs 4 F0 0 = (F, n) ∧ Bd F 1074 ∧ n ≤ 4 := by
  obtain ⟨h1, h2, h3, h4, h5⟩ := h
  refine ⟨?_, ⟨h2, h3, ?_⟩, by omega⟩
  · rw [← h1]
    cases j with
    | zero => rfl
    | succ j => simp only [qs, hg]; rfl
  · have e : 4 * 2 ^ 1072 = (2 : Nat) ^ 1074 := by decide +kernel
    rw [← e]
    exact Nat.le_trans h4 (Nat.mul_le_mul_right _ (by omega))

/-- a number of at most 1 is small -/
theorem small_of {F p : Nat} (h : Bd F p) (hp : p ≤ 1125) : Small F := by
  refine ⟨h.mono (by omega), Nat.lt_of_le_of_lt (h.mono hp).2.2 ?_⟩
  exact Nat.pow_lt_pow_right (by omega) (by omega)

def phC (X : Nat) : Nat := sinW (fop .sub .f64 cQuarter (qs 4 (frac X) 0).1)
def phS (X : Nat) : Nat := sinW (qs 4 (frac X) 0).1
def phRe (X : Nat) : Nat := match (qs 4 (frac X) 0).2 with | 1 => fop .sub .f64 0 (phS X) | 2 => fop .sub .f64 0 (phC X) | 3 => phS X | _ => phC X
def phIm (X : Nat) : Nat := match (qs 4 (frac X) 0).2 with | 1 => phC X | 2 => fop .sub .f64 0 (phS X) | 3 => fop .sub .f64 0 (phC X) | _ => phS X
/-- the parts of a phasor -/
def phasor (X : Nat) : Nat × Nat := if fin64B X then if 2 ^ 1126 ≤ mv X then (1065353216, 0) else (nar (phRe X), nar (phIm X)) else (qn .f32, qn .f32)
end Go.Fl
