/-
  PLAIN LAWS: what is behind the whole part of a number; sines. (No program here.)
-/
import Derived.Test.YtkcdccfajjhacaaLog2
import Derived.Test.YtkcdccfajjhacaaInt
set_option exponentiation.threshold 5000
set_option linter.unusedVariables false
set_option linter.unusedSimpArgs false
namespace Go.Fl
open Go Ieee

theorem near_exact {W V r0 : Nat} (h : Near W V 1) (hr : r0 ≤ 9218868437227405312) (e : rv double r0 = V) : W < 18446744073709551616 ∧ W % 9223372036854775808 = r0 := by
  obtain ⟨g1, g2, g3⟩ := h
  obtain ⟨a, b⟩ := g3 r0 hr
  have := a (by rw [e, Nat.mul_one]; exact Nat.le_refl _)
  have := b (by rw [e, Nat.mul_one]; exact Nat.le_refl _)
  exact ⟨g1, by omega⟩

theorem sg_eq (X : Nat) : sg X = (X / 9223372036854775808 % 2 == 1) := ng64 X

theorem word_ext {A B : Nat} (hA : A < 18446744073709551616) (hB : B < 18446744073709551616) (h : A % 9223372036854775808 = B % 9223372036854775808) (hs : sg A = sg B) : A = B := by
  rw [sg_eq, sg_eq, Bool.eq_iff_iff, beq_iff_eq, beq_iff_eq] at hs
  omega

/-- a whole number below 2^53 is exact -/
theorem near_whole (s : Bool) {c : Nat} (hc : c < 9007199254740992) :
    double.nearest s c 0 < 18446744073709551616 ∧ Fin64 (double.nearest s c 0) ∧ mv (double.nearest s c 0) = c * 2 ^ 1074 ∧ sg (double.nearest s c 0) = s := by
  obtain ⟨h1, h2⟩ := near_nearest s c 0 (c * 2 ^ 1074) 1 (by omega) (by
    rw [show ((0 : Int) - -1074).toNat = 1074 by omega, show ((-1074 : Int) - 0).toNat = 0 by omega, Nat.pow_zero])
  obtain ⟨r0, k1, k2⟩ := exists_rung double 1074 c (by rw [bin64]; exact hc)
  rw [bin64] at k2
  have hr : r0 < 9218868437227405312 := Nat.lt_of_lt_of_le k2 (by decide)
  obtain ⟨g1, g2⟩ := near_exact h1 (Nat.le_of_lt hr) k1
  exact ⟨g1, by unfold Fin64; omega, by unfold mv; rw [g2, k1], h2⟩

theorem fi_near (n : Int) : fi n = double.nearest (decide (n < 0)) n.natAbs 0 := rfl

theorem svd_of {X : Nat} {s : Bool} {V : Nat} (h1 : sg X = s) (h2 : mv X = V) : svd X = if s then -(V : Int) else (V : Int) := by unfold svd; rw [h1, h2]

/-- the parts of a number that is not too great -/
theorem parts {X : Nat} (h : Bd X 1126) : ∃ c, c < 9007199254740992 ∧ c * 2 ^ 1074 ≤ mv X ∧ mv X < (c + 1) * 2 ^ 1074 ∧ fcut .zero X = double.nearest (sg X) c 0 ∧ toI X = signed (sg X) c 0 := by
  obtain ⟨m, i, h1, h2, h3, h4⟩ := h.2.1.read
  refine ⟨(m <<< i.toNat) / 2 ^ (-i).toNat, ?_, cut_mag h2 h3, ?_, ?_, ?_⟩
  · have b := Nat.le_trans (cut_mag h2 h3) h.2.2
    rw [show (1126 : Nat) = 52 + 1074 by omega, Nat.pow_add] at b
    have := Nat.le_of_mul_le_mul_right b (Nat.two_pow_pos _)
    rw [show (2 : Nat) ^ 52 = 4503599627370496 by decide] at this
    omega
  · rw [← h3, Nat.shiftLeft_eq]
    rcases Int.le_total 0 i with g | g
    · have e1 : (-i).toNat = 0 := by omega
      have e2 : (i - -1074).toNat = i.toNat + 1074 := by omega
      rw [e1, e2, Nat.pow_zero, Nat.div_one, Nat.pow_add, ← Nat.mul_assoc]
      exact Nat.mul_lt_mul_of_pos_right (Nat.lt_succ_self _) (Nat.two_pow_pos _)
    · have e1 : i.toNat = 0 := by omega
      have e2 : 1074 = (i - -1074).toNat + (-i).toNat := by omega
      rw [e1, Nat.pow_zero, Nat.mul_one]
      have hlt : m < (m / 2 ^ (-i).toNat + 1) * 2 ^ (-i).toNat := by
        have := Nat.lt_div_mul_add (a := m) (b := 2 ^ (-i).toNat) (Nat.two_pow_pos _)
        rw [Nat.add_mul, Nat.one_mul]; exact this
      have := Nat.mul_lt_mul_of_pos_right hlt (Nat.two_pow_pos (i - -1074).toNat)
      refine Nat.lt_of_lt_of_le this (Nat.le_of_eq ?_)
      rw [Nat.mul_assoc, ← Nat.pow_add, Nat.add_comm (-i).toNat, ← e2]
  · unfold fcut
    rw [h1, ← (cut_low .zero (sg X) (m <<< i.toNat) (-i).toNat).2]
    rfl
  · unfold toI
    rw [h1, ← (cut_low .zero (sg X) (m <<< i.toNat) (-i).toNat).2]
    rfl

/-- nothing added -/
theorem near_sum_neg {X Y : Nat} (hX : Fin64 X) (hY : Fin64 Y) (hn : svd X + svd Y < 0) : sg (fop .add .f64 X Y) = true := by
  obtain ⟨m, i, h1, h2, h3, _⟩ := hX.read
  obtain ⟨n, j, g1, g2, g3, _⟩ := hY.read
  have hf : floatBits .add .f64 X Y = some (double.write (.number (if signed (sg X) m (i - min i j).toNat + signed (sg Y) n (j - min i j).toNat = 0 then sg X && sg Y else signed (sg X) m (i - min i j).toNat + signed (sg Y) n (j - min i j).toNat < 0)
    (signed (sg X) m (i - min i j).toNat + signed (sg Y) n (j - min i j).toNat).natAbs (min i j))) := by
    show ((double.read X).sum (double.read Y)).map double.write = _
    rw [h1, g1]; rfl
  rw [fop_some hf]
  have e1 := signed_sv rfl h3 (base := min i j) (by omega) (by omega)
  have e2 := signed_sv rfl g3 (base := min i j) (by omega) (by omega)
  have hp : 0 < 2 ^ (min i j - -1074).toNat := Nat.two_pow_pos _
  have e3 : (signed (sg X) m (i - min i j).toNat + signed (sg Y) n (j - min i j).toNat) * (2 ^ (min i j - -1074).toNat : Nat) = svd X + svd Y := by
    rw [Int.add_mul, e1, e2]
  have hneg : signed (sg X) m (i - min i j).toNat + signed (sg Y) n (j - min i j).toNat < 0 := by
    rcases Int.lt_or_le (signed (sg X) m (i - min i j).toNat + signed (sg Y) n (j - min i j).toNat) 0 with g | g
    · exact g
    · have := Int.mul_nonneg g (show (0 : Int) ≤ (2 ^ (min i j - -1074).toNat : Nat) by omega)
      omega
  show ng double (double.nearest _ _ _) = true
  rw [(near_nearest _ _ _ _ 1 (by omega) (by
      have : (-1074 - min i j).toNat = 0 := by omega
      rw [this, Nat.pow_zero, Nat.mul_one])).2]
  rw [if_neg (by omega)]
  exact decide_eq_true hneg

theorem add_zero {W : Nat} (h : Fin64 W) (hl : W < 18446744073709551616) (hp : 0 < mv W) : fop .add .f64 W 0 = W := by
  have hn := near_add h zero_fin
  rw [zero_val, Int.add_zero, svd_abs] at hn
  unfold Fin64 at h
  obtain ⟨g1, g2⟩ := near_exact hn.1 (r0 := W % 9223372036854775808) (by omega) rfl
  refine word_ext g1 hl g2 ?_
  cases hs : sg W with
  | false => exact hn.2 (by rw [svd_of hs rfl]; simp; exact hp)
  | true => exact near_sum_neg h zero_fin (by rw [zero_val, svd_of hs rfl]; simp; exact hp)

/-- the whole part, by either way -/
theorem tz_eq {X : Nat} (h : Bd X 1126) : fop .add .f64 (fcut .zero X) 0 = fi (toI X) := by
  obtain ⟨c, hc, h1, h2, h3, h4⟩ := parts h
  rw [h3, h4]
  rcases Nat.eq_zero_or_pos c with g | g
  · subst g
    cases sg X <;> decide +kernel
  · have e : fi (signed (sg X) c 0) = double.nearest (sg X) c 0 := by
      rw [fi_near]
      have e1 : (signed (sg X) c 0).natAbs = c := by unfold signed; rw [Nat.shiftLeft_zero]; split <;> omega
      have e2 : decide (signed (sg X) c 0 < 0) = sg X := by
        unfold signed; rw [Nat.shiftLeft_zero]
        cases sg X
        · exact decide_eq_false (by simp)
        · exact decide_eq_true (by simp; omega)
      rw [e1, e2]
    obtain ⟨k1, k2, k3, k4⟩ := near_whole (sg X) hc
    rw [e]
    exact add_zero k2 k1 (by rw [k3]; exact Nat.mul_pos g (Nat.two_pow_pos _))

/-- what is behind it lies within 1 -/
theorem fr_bd {X : Nat} (h : Bd X 1126) : Bd (fop .sub .f64 X (fi (toI X))) 1074 := by
  obtain ⟨c, hc, h1, h2, h3, h4⟩ := parts h
  have hn : (toI X).natAbs = c := by rw [h4]; unfold signed; rw [Nat.shiftLeft_zero]; split <;> omega
  obtain ⟨k1, k2, k3, k4⟩ := near_whole (decide (toI X < 0)) (c := (toI X).natAbs) (by rw [hn]; exact hc)
  rw [← fi_near] at k1 k2 k3 k4
  refine (near_sub h.2.1 k2).1.bd (by omega) ?_
  rw [svd_of k4 k3, svd_of rfl rfl, hn, Nat.mul_one]
  rw [Nat.add_mul, Nat.one_mul] at h2
  have hd : c ≠ 0 → decide (toI X < 0) = sg X := by
    intro g
    rw [h4]; unfold signed; rw [Nat.shiftLeft_zero]
    cases sg X
    · exact decide_eq_false (by simp)
    · exact decide_eq_true (by simp; omega)
  have e0 : c = 0 → c * 2 ^ 1074 = 0 := by intro g; rw [g, Nat.zero_mul]
  clear k1 k2 k3 k4 h3 h4 hn h
  generalize mv X = M at *
  generalize toI X = T at *
  generalize sg X = s at *
  generalize hP : c * 2 ^ 1074 = P at *
  generalize (2 : Nat) ^ 1074 = A at *
  rcases Nat.eq_zero_or_pos c with g | g
  · have := e0 g
    subst this
    cases s <;> cases decide (T < 0) <;> simp <;> omega
  · rw [hd (by omega)]
    cases s <;> simp <;> omega
end Go.Fl
