/-
  PLAIN LAWS: the kinds of 32-bit numbers; what the logarithm of each is. (No program here.)
-/
import Derived.Test.YtkcdccfajjhacaaLog
set_option exponentiation.threshold 5000
set_option linter.unusedVariables false
set_option linter.unusedSimpArgs false
namespace Go.Fl
open Go Ieee

theorem qn32 : qn .f32 = 2143289344 := by decide +kernel
theorem f32_kinds {X : Nat} (h : Can .f32 X) :
    X = qn .f32 ∨ X = 0 ∨ X = 2147483648 ∨ X = 2139095040 ∨ (isn .f32 X = false ∧ 2147483648 < X) ∨ (isn .f32 X = false ∧ 0 < X ∧ X < 2139095040) := by
  by_cases hn : isn .f32 X = true
  · exact .inl (h.nan hn)
  · have hn' : isn .f32 X = false := by simpa using hn
    have hlt := can32_lt h
    have h2 := hn'
    rw [isn32, decide_eq_false_iff_not] at h2
    rcases Nat.lt_or_ge X 2147483648 with g | g
    · rcases Nat.eq_zero_or_pos X with g1 | g1
      · exact .inr (.inl g1)
      · rcases Nat.lt_or_ge X 2139095040 with g2 | g2
        · exact .inr (.inr (.inr (.inr (.inr ⟨hn', g1, g2⟩))))
        · exact .inr (.inr (.inr (.inl (by omega))))
    · rcases Nat.eq_or_lt_of_le g with g1 | g1
      · exact .inr (.inr (.inl g1.symm))
      · exact .inr (.inr (.inr (.inr (.inl ⟨hn', g1⟩))))

theorem fne_self {k : FloatKind} {X : Nat} (hn : isn k X = false) : fne k X X = false := by
  rw [Bool.eq_false_iff]; intro g
  rcases (fne_iff _ _ _).1 g with g | g | g
  · rw [hn] at g; cases g
  · rw [hn] at g; cases g
  · exact g rfl

theorem isn_nil (k : FloatKind) : isn k 0 = false := by cases k <;> decide +kernel

/-- a negative number stands below 0, in either width -/
theorem ltz32 {X : Nat} (h : Can .f32 X) (hn : isn .f32 X = false) (h2 : 2147483648 < X) : flt .f32 X 0 = true := by
  have hlt := can32_lt h
  rw [flt_iff]
  refine ⟨hn, isn_nil _, ?_⟩
  have e0 : sv FloatKind.f32.format 0 = 0 := by decide +kernel
  rw [e0]
  unfold sv
  rw [ng32, rg32]
  have e1 : (X / 2147483648 % 2 == 1) = true := by rw [beq_iff_eq]; omega
  rw [if_pos e1]
  have h5 : rv single 1 ≤ rv single (X % 2147483648) := rv_le single (by omega)
  have h6 : rv single 1 = 1 := by decide +kernel
  show -((rv single (X % 2147483648) : Nat) : Int) < 0
  omega
theorem ltz64 {X : Nat} (h : Can .f32 X) (hn : isn .f32 X = false) (h2 : 2147483648 < X) : flt .f64 (wid X) 0 = true := by
  have hlt := can32_lt h
  obtain ⟨r0, g1, g2, g3, g4⟩ := wid_cases hlt hn
  rw [flt_iff]
  have hs := wid_sign hlt hn
  rw [decide_eq_true (show 2147483648 ≤ X by omega), decide_eq_true_eq] at hs
  have hr : wid X % 9223372036854775808 = r0 := by rw [g2]; exact (word64_lt g1).2.1
  have hl : wid X < 18446744073709551616 := by rw [g2]; exact (word64_lt g1).1
  refine ⟨wid_num hlt hn, isn_nil _, ?_⟩
  have e0 : sv FloatKind.f64.format 0 = 0 := by decide +kernel
  rw [e0]
  unfold sv
  rw [ng64, rg64, hr]
  have e1 : (wid X / 9223372036854775808 % 2 == 1) = true := by rw [beq_iff_eq]; omega
  rw [if_pos e1]
  have h7 : 0 < rv double r0 := by
    rw [isn32, decide_eq_false_iff_not] at hn
    rcases Nat.lt_or_ge (X % 2147483648) 2139095040 with g | g
    · rw [(g3 g).2]
      have h5 : rv single 1 ≤ rv single (X % 2147483648) := rv_le single (by omega)
      have h6 : rv single 1 = 1 := by decide +kernel
      exact Nat.mul_pos (by omega) (Nat.two_pow_pos _)
    · rw [g4 (by omega)]; decide +kernel
  show -((rv double r0 : Nat) : Int) < 0
  omega

/-- the logarithm of a 32-bit number -/
def logN (X : Nat) : Nat :=
  if isn .f32 X || (decide (2147483648 < X)) then qn .f32
  else if X % 2147483648 = 0 then 4286578688
  else if X = 2139095040 then X
  else nar (logF (wid X))

theorem pos32 {X : Nat} (h : Can .f32 X) (hn : isn .f32 X = false) (h1 : 0 < X) (h2 : X < 2139095040) : flt .f32 X 0 = false ∧ feq .f32 X 0 = false := by
  have h5 : rv single 1 ≤ rv single (X % 2147483648) := rv_le single (by omega)
  have h6 : rv single 1 = 1 := by decide +kernel
  have e0 : sv FloatKind.f32.format 0 = 0 := by decide +kernel
  have e2 : sv FloatKind.f32.format X = (rv single (X % 2147483648) : Nat) := by
    unfold sv
    rw [ng32, rg32]
    have e1 : (X / 2147483648 % 2 == 1) = false := by rw [Nat.div_eq_of_lt (by omega)]; rfl
    rw [if_neg (by rw [e1]; decide)]
    rfl
  constructor
  · rw [Bool.eq_false_iff]; intro g
    have := ((flt_iff _ _ _).1 g).2.2
    rw [e0, e2] at this; omega
  · rw [Bool.eq_false_iff]; intro g
    have := ((feq_iff _ _ _).1 g).2.2
    rw [e0, e2] at this; omega

theorem pos_fle {X : Nat} (h : Can .f32 X) (hn : isn .f32 X = false) (h1 : 0 < X) (h2 : X < 2139095040) : fle .f32 X 0 = false := by
  have h5 : rv single 1 ≤ rv single (X % 2147483648) := rv_le single (by omega)
  have h6 : rv single 1 = 1 := by decide +kernel
  have e0 : sv FloatKind.f32.format 0 = 0 := by decide +kernel
  have e2 : sv FloatKind.f32.format X = (rv single (X % 2147483648) : Nat) := by
    unfold sv
    rw [ng32, rg32]
    have e1 : (X / 2147483648 % 2 == 1) = false := by rw [Nat.div_eq_of_lt (by omega)]; rfl
    rw [if_neg (by rw [e1]; decide)]
    rfl
  rw [Bool.eq_false_iff]; intro g
  have := ((fle_iff _ _ _).1 g).2.2
  rw [e0, e2] at this; omega
theorem ltz_fle {X : Nat} (h : Can .f32 X) (hn : isn .f32 X = false) (h2 : 2147483648 < X) : fle .f32 X 0 = true := by
  have g := ((flt_iff _ _ _).1 (ltz32 h hn h2))
  exact (fle_iff _ _ _).2 ⟨g.1, g.2.1, Int.le_of_lt g.2.2⟩

/-- a positive finite number's logarithm: what the walk needs -/
theorem bd_logF {X : Nat} (h : LogArg X) : Bd (logF X) 1091 := by
  obtain ⟨j, Y, n, hD, hg⟩ : ∃ j Y n, Dn X j Y n ∧ fge .f64 Y 4609434218613702656 = false := by
    have : ∀ (j Y n : Nat), Dn X j Y n → ∃ j Y n, Dn X j Y n ∧ fge .f64 Y 4609434218613702656 = false := by
      intro j
      induction j with
      | zero => intro Y n h; exact ⟨0, Y, n, h, half_end h.2.1 h.2.2.1⟩
      | succ j ih =>
        intro Y n h
        by_cases hg : fge .f64 Y 4609434218613702656 = true
        · exact ih _ _ (h.step hg)
        · exact ⟨j + 1, Y, n, h, by simpa using hg⟩
    exact this 128 X 0 (Dn.start h)
  have hs := hD.stop hg
  obtain ⟨j', Z, m, hU, hg'⟩ : ∃ j' Z m, Up Y j' Z m ∧ flt .f64 Z 4604930618986332160 = false := by
    have : ∀ (j Z n : Nat), Up Y j Z n → ∃ j Z n, Up Y j Z n ∧ flt .f64 Z 4604930618986332160 = false := by
      intro j
      induction j with
      | zero => intro Z n h; exact ⟨0, Z, n, h, double_end h.2.1 h.2.2.1 h.2.2.2.1⟩
      | succ j ih =>
        intro Z n h
        by_cases hg : flt .f64 Z 4604930618986332160 = true
        · exact ih _ _ (h.step hg)
        · exact ⟨j + 1, Z, n, h, by simpa using hg⟩
    exact this 149 Y 0 (Up.start hD.2.1.2.1 hD.2.2.1 hD.2.2.2.1 hs.2.1 hD.2.1.1)
  have ht := hU.stop hg'
  exact bd_log ⟨Y, Z, n, m, hs.1, ht.1, hs.2.2, ht.2.2.2.2.2, ht.2.1, ht.2.2.1, ht.2.2.2.1, ht.2.2.2.2.1⟩
/-- the tenths of decibels, as a float; as an integer -/
def tenX (X : Nat) : Nat := fop .add .f64 (fop .mul .f64 (logF (wid X)) 4631308968768463603) 4602678819172646912
theorem bd_tenX {X : Nat} (h : LogArg (wid X)) : Bd (tenX X) 1098 := by
  have a := bd_logF h
  have c : Bd 4631308968768463603 1080 := ⟨by decide, by unfold Fin64; decide, by decide +kernel⟩
  have d : Bd 4602678819172646912 1097 := ⟨by decide, by unfold Fin64; decide, by decide +kernel⟩
  exact bd_add (bd_mul (r := 1097) a c (by omega) (by omega)) d (by omega)


end Go.Fl
