/-
  PLAIN LAWS: finite numbers, flushed numbers, square roots. (No program here.)
-/
import Derived.Test.YtianaalokclklaaDoorFx
set_option exponentiation.threshold 5000
set_option linter.unusedVariables false
set_option linter.unusedSimpArgs false
namespace Go.Fl
open Go Ieee

def fin32B (X : Nat) : Bool := decide (X % 2147483648 < 2139095040)
def fin64B (X : Nat) : Bool := decide (X % 9223372036854775808 < 9218868437227405312)

theorem fin_law {X : Nat} (hX : Can .f64 X) : (!fne .f64 X X && !fgt .f64 (fabs X) 9218868437227405311) = fin64B X := by
  have hlt := can64_lt hX
  have nc : isn .f64 9218868437227405311 = false := by decide +kernel
  by_cases hn : isn .f64 X = true
  · have h1 : fne .f64 X X = true := (fne_iff _ _ _).2 (.inl hn)
    have h2 : fin64B X = false := by
      rw [isn64, decide_eq_true_eq] at hn
      exact decide_eq_false (by omega)
    rw [h1, h2]; rfl
  · have hn' : isn .f64 X = false := by simpa using hn
    have h1 : fne .f64 X X = false := by
      cases h : fne .f64 X X
      · rfl
      · rw [fne_iff] at h; simp [hn'] at h
    rw [h1, Bool.not_false, Bool.true_and]
    have n0 : isn .f64 (fabs X) = false := by
      unfold fabs
      rw [isn64, decide_eq_false_iff_not] at *
      omega
    have e1 : fabs X = X % 9223372036854775808 := by unfold fabs; rfl
    have hf : fgt .f64 (fabs X) 9218868437227405311 = decide (9218868437227405311 < X % 9223372036854775808) := by
      rw [Bool.eq_iff_iff, decide_eq_true_eq, fgt_iff, e1, sv_pos64 (by omega), sv_pos64 (by omega)]
      constructor
      · rintro ⟨_, _, h⟩
        exact lt_of_rv_lt double (Int.ofNat_lt.1 h)
      · intro h
        exact ⟨by rw [← e1]; exact n0, nc, Int.ofNat_lt.2 (rv_lt double h)⟩
    rw [hf]
    unfold fin64B
    rw [Bool.eq_iff_iff, Bool.not_eq_true', decide_eq_true_eq, decide_eq_false_iff_not]
    omega

theorem fin_wid {X : Nat} (hX : Can .f32 X) : fin64B (wid X) = fin32B X := by
  have hlt := can32_lt hX
  unfold fin64B fin32B
  by_cases hn : isn .f32 X = true
  · rw [wid_nan hn, hX.nan hn]; decide +kernel
  · have hn' : isn .f32 X = false := by simpa using hn
    obtain ⟨r0, h1, h2, h3, h4⟩ := wid_cases hlt hn'
    rw [h2, (word64_lt h1).2.1, Bool.eq_iff_iff, decide_eq_true_eq, decide_eq_true_eq]
    rw [isn32, decide_eq_false_iff_not] at hn'
    constructor
    · intro h
      rcases Nat.lt_or_ge (X % 2147483648) 2139095040 with g | g
      · exact g
      · have := h4 (by omega); omega
    · intro h
      exact (h3 h).1

theorem sub_self_fin {X : Nat} (h : X % 2147483648 < 2139095040) : fop .sub .f32 X X = 0 := by
  obtain ⟨m, e, h1, h2, _, _⟩ := read_fin' Ieee.single (X := X) (by unfold rg; rw [sw32, inf32]; exact h)
  have hf : floatBits .sub .f32 X X = some 0 := by
    show ((Ieee.single.read X).sum (Ieee.single.read X).opposite).map Ieee.single.write = _
    rw [h1]
    have e1 : ∀ (s : Bool) (i : Nat), signed s m i + signed (!s) m i = 0 := by
      intro s i; unfold signed; cases s <;> simp <;> omega
    simp only [Datum.opposite, Datum.sum, Option.map_some, Int.min_self, e1]
    cases ng Ieee.single X <;> rfl
  exact fop_some hf

theorem fin_sub {X : Nat} (hX : Can .f32 X) : feq .f32 (fop .sub .f32 X X) 0 = fin32B X := by
  unfold fin32B
  by_cases h : X % 2147483648 < 2139095040
  · rw [sub_self_fin h, decide_eq_true h]; decide +kernel
  · rw [decide_eq_false h]
    have hq : fop .sub .f32 X X = qn .f32 := by
      have hf : floatBits .sub .f32 X X = none := by
        by_cases hn : isn .f32 X = true
        · exact floatBits_nan_left hn
        · have hn' : isn .f32 X = false := by simpa using hn
          rw [isn32, decide_eq_false_iff_not] at hn'
          have hr : Ieee.single.read X = .infinity (ng Ieee.single X) := read_inf' Ieee.single (by decide) (by unfold rg; rw [sw32, inf32]; omega)
          show ((Ieee.single.read X).sum (Ieee.single.read X).opposite).map Ieee.single.write = _
          rw [hr]
          cases ng Ieee.single X <;> rfl
      unfold fop; rw [hf]; rfl
    rw [hq]; decide +kernel

def flush (X : Nat) : Nat := if X &&& 2139095040 = 0 then X &&& 2147483648 else X

theorem and_pow (x k : Nat) : x &&& 2 ^ k = x / 2 ^ k % 2 * 2 ^ k := by
  apply Nat.eq_of_testBit_eq
  intro i
  rw [Nat.testBit_and, Nat.testBit_two_pow, ← Nat.shiftLeft_eq, Nat.testBit_shiftLeft]
  by_cases h : k = i
  · subst h
    simp only [decide_true, Bool.and_true, ge_iff_le, Nat.le_refl, Bool.true_and, Nat.sub_self]
    rw [Nat.testBit_zero, Nat.mod_mod, ← Nat.shiftRight_eq_div_pow]
    have := Nat.testBit_shiftRight (x := x) (i := k) (j := 0)
    rw [Nat.add_zero] at this
    rw [← this, Nat.testBit_zero]
  · simp only [h, decide_false, Bool.and_false]
    by_cases g : k ≤ i
    · obtain ⟨d, hd⟩ : ∃ d, i - k = d + 1 := ⟨i - k - 1, by omega⟩
      rw [hd, Nat.testBit_succ]
      have : x / 2 ^ k % 2 / 2 = 0 := by omega
      rw [this]; simp
    · simp [g]

/-- a zero with the sign of another number -/
def csz (X : Nat) : Nat := if 9223372036854775808 ≤ X then 9223372036854775808 else 0

theorem csz_and {x : Nat} (h : x < 18446744073709551616) : x &&& 9223372036854775808 = csz x := by
  have e := and_pow x 63
  rw [show (2 : Nat) ^ 63 = 9223372036854775808 from rfl] at e
  rw [e]
  unfold csz
  split <;> omega

theorem csz_is (X : Nat) : Is .f64 (csz X) (csz X) := by
  unfold csz
  split
  · exact Is.lit (by decide +kernel)
  · exact Is.lit (by decide +kernel)

theorem noOv_csz (X : Nat) : NoOv (csz X) := by
  unfold csz
  split
  · right; decide +kernel
  · right; decide +kernel

theorem flush_law {X : Nat} (hX : Can .f32 X) (hs : (fne .f32 X 0 && decide (X &&& 2139095040 = 0)) = true) : nar (csz (wid X)) = flush X := by
  rw [Bool.and_eq_true, decide_eq_true_eq] at hs
  have hlt := can32_lt hX
  have h0 := hs.2
  have h1 := (expo_zero X).1 h0
  have hn : isn .f32 X = false := by rw [isn32]; exact decide_eq_false (by omega)
  have hsg := wid_sign hlt hn
  have e := and_pow X 31
  rw [show (2 : Nat) ^ 31 = 2147483648 from rfl] at e
  unfold flush
  rw [if_pos h0, e]
  unfold csz
  by_cases g : 2147483648 ≤ X
  · rw [decide_eq_true g] at hsg
    rw [if_pos (of_decide_eq_true hsg)]
    have : X / 2147483648 % 2 = 1 := by omega
    rw [this]; decide +kernel
  · rw [decide_eq_false g] at hsg
    rw [if_neg (of_decide_eq_false hsg)]
    have : X / 2147483648 % 2 = 0 := by omega
    rw [this]; decide +kernel

theorem flush_same {X : Nat} (hX : Can .f32 X) (hs : (fne .f32 X 0 && decide (X &&& 2139095040 = 0)) = false) : flush X = X := by
  have hlt := can32_lt hX
  unfold flush
  by_cases h0 : X &&& 2139095040 = 0
  · rw [if_pos h0]
    rw [decide_eq_true h0, Bool.and_true] at hs
    have h1 := (expo_zero X).1 h0
    have hn : isn .f32 X = false := by rw [isn32]; exact decide_eq_false (by omega)
    have hz : sv FloatKind.f32.format X = sv FloatKind.f32.format 0 := by
      rcases Classical.em (sv FloatKind.f32.format X = sv FloatKind.f32.format 0) with g | g
      · exact g
      · rw [(fne_iff .f32 X 0).2 (.inr (.inr g))] at hs; cases hs
    rw [sv_of_zero, sv_zero_iff, rg32] at hz
    have e := and_pow X 31
    rw [show (2 : Nat) ^ 31 = 2147483648 from rfl] at e
    rw [e]; omega
  · rw [if_neg h0]

/-! ### square roots of 32-bit numbers are not too great -/
theorem root_ok {X : Nat} (hX : Can .f32 X) : NoOv (fsqrt (wid X)) := by
  have hlt := can32_lt hX
  by_cases hn : isn .f32 X = true
  · rw [wid_nan hn]; left; decide +kernel
  · have hn' : isn .f32 X = false := by simpa using hn
    obtain ⟨r0, h1, h2, h3, h4⟩ := wid_cases hlt hn'
    obtain ⟨g1, g2, g3⟩ := word64_lt (neg := ng FloatKind.f32.format X) h1
    rw [← h2] at g1 g2 g3
    rw [isn32, decide_eq_false_iff_not] at hn'
    rcases Nat.eq_or_lt_of_le (show X % 2147483648 ≤ 2139095040 by omega) with hi | hi
    · -- an infinity
      have hr := h4 hi
      rw [h2, hr]
      cases ng FloatKind.f32.format X
      · right; decide +kernel
      · left; decide +kernel
    · obtain ⟨k1, k2⟩ := h3 hi
      have hf : Fin64 (wid X) := by unfold Fin64; omega
      have hb : Bd (wid X) 1203 := by
        refine ⟨g1, hf, ?_⟩
        unfold mv
        rw [g2, k2]
        have e1 : rv Ieee.single (X % 2147483648) ≤ 2 ^ 278 := by
          obtain ⟨m, e, q1, q2, q3⟩ := exists_dec (X % 2147483648) hi
          rw [q1]
          have : m * 2 ^ e ≤ 2 ^ 24 * 2 ^ e := Nat.mul_le_mul_right _ (by omega)
          refine Nat.le_trans this ?_
          rw [← Nat.pow_add]
          exact two_pow_le (by omega)
        have := Nat.mul_le_mul_right (2 ^ 925) e1
        rw [← Nat.pow_add] at this
        exact this
      by_cases hs : sg (wid X) = false
      · exact noOv_of_bd (bd_sqrt hb hs (by omega : 1203 + 1076 ≤ 2 * 1140) (by omega)).1 (by omega)
      · have hs' : sg (wid X) = true := by simpa using hs
        obtain ⟨m, e, q1, _, q3, _⟩ := hf.read
        rcases Nat.eq_zero_or_pos m with hm | hm
        · -- the negative zero
          rw [hm, Nat.zero_mul] at q3
          have hz : wid X % 9223372036854775808 = 0 := by
            rcases Nat.eq_zero_or_pos (wid X % 9223372036854775808) with z | z
            · exact z
            · have := rv_pos double z; unfold mv at q3; omega
          have : wid X = 0 ∨ wid X = 9223372036854775808 := by omega
          rcases this with z | z
          · rw [z]; right; decide +kernel
          · rw [z]; right; decide +kernel
        · left
          have : fsqrt (wid X) = qn .f64 := by
            unfold fsqrt Format.sqrt
            rw [q1, hs']
            have hm0 : m ≠ 0 := by omega
            simp [Datum.root, hm0]
          rw [this]; decide +kernel

end Go.Fl
