/-
  CANONICAL WORDS: widening, absolute values, signs, subnormal numbers. (No program here.)
-/
import Derived.Test.YtianaalokclklaaDoorLaw0
set_option exponentiation.threshold 3000
set_option linter.unusedVariables false
set_option linter.unusedSimpArgs false
namespace Go.Fl
open Go Ieee

theorem w32 : 2 ^ FloatKind.f32.format.width = 4294967296 := by decide +kernel
theorem w64 : 2 ^ FloatKind.f64.format.width = 18446744073709551616 := by decide +kernel
theorem rg32 (X : Nat) : rg FloatKind.f32.format X = X % 2147483648 := by
  show X % Ieee.single.signWeight = _; rw [sw32]
theorem rg64 (X : Nat) : rg FloatKind.f64.format X = X % 9223372036854775808 := by
  show X % Ieee.double.signWeight = _; rw [sw64]
theorem ng32 (X : Nat) : ng FloatKind.f32.format X = (X / 2147483648 % 2 == 1) := by
  show (X / Ieee.single.signWeight % 2 == 1) = _; rw [sw32]
theorem ng64 (X : Nat) : ng FloatKind.f64.format X = (X / 9223372036854775808 % 2 == 1) := by
  show (X / Ieee.double.signWeight % 2 == 1) = _; rw [sw64]
theorem isn32 (X : Nat) : isn .f32 X = decide (2139095040 < X % 2147483648) := by
  rw [isn_rg, rg32]; show decide (Ieee.single.infRung < _) = _; rw [inf32]
theorem isn64 (X : Nat) : isn .f64 X = decide (9218868437227405312 < X % 9223372036854775808) := by
  rw [isn_rg, rg64]; show decide (Ieee.double.infRung < _) = _; rw [inf64]

/-- the absolute value -/
def fabs (X : Nat) : Nat := X % 9223372036854775808

theorem fabs_is {x X : Nat} (h : Is .f64 x X) : Is .f64 (x % 9223372036854775808) (fabs X) := by
  refine ⟨?_, ?_⟩
  · rw [w64]; omega
  · have e : isn .f64 (x % 9223372036854775808) = isn .f64 x := by rw [isn64, isn64, Nat.mod_mod]
    by_cases hn : isn .f64 x = true
    · have hX : X = qn .f64 := by rw [← h.2]; exact cn_of hn
      rw [cn_of (by rw [e]; exact hn), hX]; decide +kernel
    · have hX : x = X := by rw [← h.2]; exact (cn_of_not (by simpa using hn)).symm
      rw [cn_of_not (by rw [e]; simpa using hn), hX]; rfl

/-- what a 32-bit word becomes -/
theorem wid_nan {X : Nat} (h : isn .f32 X = true) : wid X = qn .f64 := by
  unfold wid; rw [conv_nan (by decide) h]; rfl
theorem wid_cases {X : Nat} (h : X < 4294967296) (hn : isn .f32 X = false) :
    ∃ r0, r0 ≤ 9218868437227405312 ∧ wid X = Ieee.double.word (ng FloatKind.f32.format X) r0 ∧
      (X % 2147483648 < 2139095040 → r0 < 9218868437227405312 ∧ rv Ieee.double r0 = rv Ieee.single (X % 2147483648) * 2 ^ 925) ∧
      (X % 2147483648 = 2139095040 → r0 = 9218868437227405312) := by
  have hw : X = Ieee.single.word (ng FloatKind.f32.format X) (X % 2147483648) := by
    have := word_of (k := .f32) (X := X) (by rw [w32]; exact h)
    rw [rg32] at this; exact this
  rw [isn32, decide_eq_false_iff_not] at hn
  rcases Nat.lt_or_ge (X % 2147483648) 2139095040 with g | g
  · obtain ⟨r0, h1, h2, h3⟩ := widen_fin (ng FloatKind.f32.format X) g
    refine ⟨r0, by omega, ?_, fun _ => ⟨h1, h2⟩, fun h => by omega⟩
    rw [← hw] at h3
    unfold wid; rw [h3]; rfl
  · have g' : X % 2147483648 = 2139095040 := by omega
    refine ⟨9218868437227405312, Nat.le_refl _, ?_, fun h => by omega, fun _ => rfl⟩
    have hr : FloatKind.f32.decode X = .infinity (ng FloatKind.f32.format X) := by
      show Ieee.single.read X = _
      refine read_inf' Ieee.single (by decide) ?_
      rw [inf32]
      show X % Ieee.single.signWeight = _
      rw [sw32]; exact g'
    unfold wid floatToFloatBits
    rw [if_neg (by decide), hr]
    rfl

theorem word64_lt {neg : Bool} {r : Nat} (h : r ≤ 9218868437227405312) : Ieee.double.word neg r < 18446744073709551616 ∧ Ieee.double.word neg r % 9223372036854775808 = r ∧ Ieee.double.word neg r / 9223372036854775808 = neg.toNat := by
  unfold Ieee.Format.word
  rw [sw64]
  cases neg
  · simp only [Bool.false_eq_true, if_false, Bool.toNat_false]; omega
  · simp only [if_true, Bool.toNat_true]; omega

theorem wid_can (X : Nat) : Can .f64 (wid X) := by
  unfold wid
  cases h : floatToFloatBits .f32 X .f64 with
  | none => exact ⟨by rw [Option.getD_none]; exact qn_lt _, by rw [Option.getD_none, cn_of (isn_qn _)]⟩
  | some r =>
    obtain ⟨h1, h2⟩ := conv_not_nan (by decide) h
    exact ⟨h2, cn_of_not h1⟩

theorem wid_num {X : Nat} (h : X < 4294967296) (hn : isn .f32 X = false) : isn .f64 (wid X) = false := by
  obtain ⟨r0, h1, h2, _, _⟩ := wid_cases h hn
  rw [h2, isn64, (word64_lt h1).2.1]
  exact decide_eq_false (by omega)

/-- the sign is kept -/
theorem wid_sign {X : Nat} (h : X < 4294967296) (hn : isn .f32 X = false) : decide (9223372036854775808 ≤ wid X) = decide (2147483648 ≤ X) := by
  obtain ⟨r0, h1, h2, _, _⟩ := wid_cases h hn
  obtain ⟨g1, g2, g3⟩ := word64_lt (neg := ng FloatKind.f32.format X) h1
  rw [← h2] at g1 g2 g3
  rw [ng32] at g3
  by_cases hs : 2147483648 ≤ X
  · rw [decide_eq_true hs]
    have e : X / 2147483648 = 1 := by omega
    rw [e] at g3
    have : wid X / 9223372036854775808 = 1 := g3
    exact decide_eq_true (by omega)
  · rw [decide_eq_false hs]
    have e : X / 2147483648 = 0 := by omega
    rw [e] at g3
    have : wid X / 9223372036854775808 = 0 := g3
    exact decide_eq_false (by omega)

theorem can32_lt {X : Nat} (h : Can .f32 X) : X < 4294967296 := by have := h.1; rw [w32] at this; exact this
theorem can64_lt {X : Nat} (h : Can .f64 X) : X < 18446744073709551616 := by have := h.1; rw [w64] at this; exact this

/-- THE LAW of SameNumber -/
theorem same_law {A B : Nat} (hA : Can .f32 A) (hB : Can .f32 B) (na : isn .f32 A = false) (nb : isn .f32 B = false) :
    (feq .f32 A B && (decide (9223372036854775808 ≤ wid A) == decide (9223372036854775808 ≤ wid B))) = (A == B) := by
  rw [wid_sign (can32_lt hA) na, wid_sign (can32_lt hB) nb, Bool.eq_iff_iff, Bool.and_eq_true, beq_iff_eq, beq_iff_eq, feq_iff]
  constructor
  · rintro ⟨⟨_, _, h⟩, hs⟩
    rcases sv_eq .f32 hA.1 hB.1 h with g | ⟨g1, g2⟩
    · exact g
    · rw [rg32] at g1 g2
      have a := can32_lt hA
      have b := can32_lt hB
      by_cases h1 : 2147483648 ≤ A
      · rw [decide_eq_true h1] at hs
        have h2 := of_decide_eq_true hs.symm
        omega
      · rw [decide_eq_false h1] at hs
        have h2 := of_decide_eq_false hs.symm
        omega
  · rintro rfl
    exact ⟨⟨na, na, rfl⟩, rfl⟩

/-- the exponent field of a 32-bit word is nought where its rung lies in the first binade -/
theorem expo_zero (X : Nat) : (X &&& 2139095040 = 0) ↔ X % 2147483648 < 8388608 := by
  have e : X &&& 2139095040 = (X / 8388608 % 256) * 8388608 := by
    apply Nat.eq_of_testBit_eq
    intro i
    have h1 : (2139095040 : Nat) = 255 <<< 23 := by decide
    have h2 : X / 8388608 % 256 * 8388608 = ((X >>> 23) % 2 ^ 8) <<< 23 := by rw [Nat.shiftLeft_eq, Nat.shiftRight_eq_div_pow]
    rw [h1, h2]
    simp only [Nat.testBit_and, Nat.testBit_shiftLeft, Nat.testBit_mod_two_pow, Nat.testBit_shiftRight]
    by_cases hi : 23 ≤ i
    · have e1 : 23 + (i - 23) = i := by omega
      rw [e1]
      have e3 : Nat.testBit 255 (i - 23) = decide (i - 23 < 8) := by
        have : (255 : Nat) = 2 ^ 8 - 1 := by decide
        rw [this, Nat.testBit_two_pow_sub_one]
      rw [e3]
      cases Nat.testBit X i <;> simp [hi]
    · simp [hi]
  rw [e]
  omega

theorem rv_one : rv Ieee.single 8388608 = 8388608 := by decide +kernel
theorem rv_tiny : rv Ieee.double 4039728865751334912 = 8388608 * 2 ^ 925 := by decide +kernel

theorem sv_pos64 {r : Nat} (h : r < 9223372036854775808) : sv FloatKind.f64.format r = (rv Ieee.double r : Int) := by
  unfold sv
  rw [ng64, rg64]
  have e : (r / 9223372036854775808 % 2 == 1) = false := by rw [Nat.div_eq_of_lt h]; rfl
  rw [e, Nat.mod_eq_of_lt h]
  rfl

/-- THE LAW of IsSubnormal -/
theorem subnormal_law {X : Nat} (hX : Can .f32 X) : flt .f64 (fabs (wid X)) 4039728865751334912 = decide (X &&& 2139095040 = 0) := by
  have hlt := can32_lt hX
  rw [Bool.eq_iff_iff, decide_eq_true_eq, expo_zero, flt_iff]
  have nc : isn .f64 4039728865751334912 = false := by decide +kernel
  by_cases hn : isn .f32 X = true
  · have hq := hX.nan hn
    rw [wid_nan hn, hq]
    have h1 : isn .f64 (fabs (qn .f64)) = true := by decide +kernel
    have h2 : ¬ (qn .f32 % 2147483648 < 8388608) := by decide +kernel
    simp [h1, h2]
  · have hn' : isn .f32 X = false := by simpa using hn
    obtain ⟨r0, h1, h2, h3, h4⟩ := wid_cases hlt hn'
    have ef : fabs (wid X) = r0 := by unfold fabs; rw [h2]; exact (word64_lt h1).2.1
    rw [ef]
    have n0 : isn .f64 r0 = false := by rw [isn64]; exact decide_eq_false (by omega)
    rw [sv_pos64 (by omega), sv_pos64 (by omega), rv_tiny]
    have hr : X % 2147483648 ≤ 2139095040 := by rw [isn32, decide_eq_false_iff_not] at hn'; omega
    rcases Nat.eq_or_lt_of_le hr with g | g
    · have := h4 g
      subst this
      have hbig : ¬ (rv Ieee.double 9218868437227405312 < 8388608 * 2 ^ 925) := by
        have := rv_le Ieee.double (show 4039728865751334912 ≤ 9218868437227405312 by decide)
        rw [rv_tiny] at this; exact Nat.not_lt.2 this
      constructor
      · rintro ⟨_, _, h⟩; exact absurd (Int.ofNat_lt.1 h) hbig
      · intro h; omega
    · obtain ⟨_, h5⟩ := h3 g
      rw [h5]
      have hp : 0 < 2 ^ 925 := Nat.two_pow_pos _
      constructor
      · rintro ⟨_, _, h⟩
        have h' : rv Ieee.single (X % 2147483648) * 2 ^ 925 < 8388608 * 2 ^ 925 := by exact_mod_cast h
        have h6 := Nat.lt_of_mul_lt_mul_right h'
        exact lt_of_rv_lt Ieee.single (by rw [rv_one]; exact h6)
      · intro h
        refine ⟨n0, nc, ?_⟩
        have h6 := rv_lt Ieee.single h
        rw [rv_one] at h6
        have h7 : rv Ieee.single (X % 2147483648) * 2 ^ 925 < 8388608 * 2 ^ 925 := Nat.mul_lt_mul_of_pos_right h6 hp
        exact_mod_cast h7

/-- '&' of two int64 that are not negative -/
theorem and_i64 (a b : Nat) (ha : a < 9223372036854775808) (hb : b < 9223372036854775808) : bits .and .i64 (a : Int) (b : Int) = ((a &&& b : Nat) : Int) := by
  have hle : a &&& b ≤ a := Nat.and_le_left
  have key : (BitVec.ofInt 64 (a : Int) &&& BitVec.ofInt 64 (b : Int)).toNat = a &&& b := by
    rw [BitVec.toNat_and, BitVec.toNat_ofInt, BitVec.toNat_ofInt]
    congr 1 <;> omega
  show IntKind.i64.wrap ((BitVec.ofInt 64 (a : Int) &&& BitVec.ofInt 64 (b : Int)).toNat : Nat) = _
  rw [key, IntKind.wrap_i64]
  omega

attribute [irreducible] fabs

end Go.Fl
