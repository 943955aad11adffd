/-
  PLAIN LAWS: the logarithm: its loops as functions; the counter; the bounds of the series. (No program here.)
-/
import Derived.Test.YtkcdccfajjhacaaLaw3
set_option exponentiation.threshold 5000
set_option linter.unusedVariables false
set_option linter.unusedSimpArgs false
namespace Go.Fl
open Go Ieee

def fi (n : Int) : Nat := floatOfInt .f64 n
abbrev c1 : Nat := 4607182418800017408
abbrev c2 : Nat := 4611686018427387904

/-- the counter as a float goes up and down exactly -/
theorem fi_up_all : (List.range 600).all (fun n => fop .add .f64 (fi ((n : Int) - 300)) c1 == fi ((n : Int) - 300 + 1)) = true := by decide +kernel
theorem fi_dn_all : (List.range 600).all (fun n => fop .sub .f64 (fi ((n : Int) - 300)) c1 == fi ((n : Int) - 300 - 1)) = true := by decide +kernel
theorem fi_up {j : Int} (h : -300 ≤ j) (h' : j < 300) : fop .add .f64 (fi j) c1 = fi (j + 1) := by
  have := List.all_eq_true.1 fi_up_all (j + 300).toNat (List.mem_range.2 (by omega))
  rw [beq_iff_eq, show (((j + 300).toNat : Nat) : Int) - 300 = j by omega] at this
  exact this
theorem fi_dn {j : Int} (h : -300 ≤ j) (h' : j < 300) : fop .sub .f64 (fi j) c1 = fi (j - 1) := by
  have := List.all_eq_true.1 fi_dn_all (j + 300).toNat (List.mem_range.2 (by omega))
  rw [beq_iff_eq, show (((j + 300).toNat : Nat) : Int) - 300 = j by omega] at this
  exact this
theorem fi_zero : fi 0 = 0 := by decide +kernel
theorem fi_can_all : (List.range 600).all (fun n => decide (fi ((n : Int) - 300) < 18446744073709551616) && decide (fi ((n : Int) - 300) % 9223372036854775808 ≤ 4643985272004935680)) = true := by decide +kernel
theorem fi_bd {j : Int} (h : -300 ≤ j) (h' : j < 300) : Bd (fi j) 1083 := by
  have := List.all_eq_true.1 fi_can_all (j + 300).toNat (List.mem_range.2 (by omega))
  rw [Bool.and_eq_true, decide_eq_true_eq, decide_eq_true_eq, show (((j + 300).toNat : Nat) : Int) - 300 = j by omega] at this
  refine ⟨this.1, by unfold Fin64; omega, ?_⟩
  unfold mv
  refine Nat.le_trans (rv_le double this.2) ?_
  decide +kernel

/-- the series, 'j' rounds to come -/
def ser (u : Nat) : Nat → Nat → Nat
  | 0, q => q
  | j + 1, q => ser u j (fop .add .f64 (fop .quo .f64 c1 (fi (2 * ((j + 1 : Nat) : Int) - 1))) (fop .mul .f64 u q))

def logS (Z : Nat) : Nat := fop .quo .f64 (fop .sub .f64 Z c1) (fop .add .f64 Z c1)
def logU (Z : Nat) : Nat := fop .mul .f64 (logS Z) (logS Z)
def logTail (Z : Nat) (e : Int) : Nat :=
  fop .add .f64 (fop .mul .f64 c2 (fop .mul .f64 (logS Z) (ser (logU Z) 13 0))) (fop .mul .f64 (fi e) 4604418534313441775)
def logF (X : Nat) : Nat := logTail (up 149 (dn 128 X 0).1 0).1 (((dn 128 X 0).2 : Int) - ((up 149 (dn 128 X 0).1 0).2 : Int))

/-- what the logarithm is taken of -/
def LogArg (X : Nat) : Prop := Bd X 1202 ∧ sg X = false ∧ 2 ^ 925 ≤ mv X

theorem LogArg.pos {X : Nat} (h : LogArg X) : 0 < mv X := Nat.lt_of_lt_of_le (Nat.two_pow_pos 925) h.2.2
theorem zero_fin : Fin64 0 := by unfold Fin64; decide
theorem zero_val : svd 0 = 0 := by decide +kernel
theorem LogArg.n1 {X : Nat} (h : LogArg X) : fne .f64 X X = false := by
  rw [Bool.eq_false_iff]; intro g
  rcases (fne_iff _ _ _).1 g with g | g | g
  · rw [not_nan h.1.2.1] at g; cases g
  · rw [not_nan h.1.2.1] at g; cases g
  · exact g rfl
theorem LogArg.n2 {X : Nat} (h : LogArg X) : flt .f64 X 0 = false := by
  rw [flt_fin h.1.2.1 zero_fin, decide_eq_false_iff_not, zero_val, svd_pos h.2.1]; omega
theorem LogArg.n3 {X : Nat} (h : LogArg X) : feq .f64 X 0 = false := by
  rw [Bool.eq_false_iff]; intro g
  have := ((feq_iff _ _ _).1 g).2.2
  rw [show FloatKind.f64.format = double from rfl, svd_eq, svd_eq, zero_val, svd_pos h.2.1] at this
  have := h.pos
  omega
theorem LogArg.n4 {X : Nat} (h : LogArg X) : fgt .f64 X 9218868437227405311 = false := by
  rw [fgt_fin h.1.2.1 (by unfold Fin64; decide), decide_eq_false_iff_not, svd_pos h.2.1]
  have e1 : svd 9218868437227405311 = ((rv double 9218868437227405311 : Nat) : Int) := by decide +kernel
  rw [e1, Int.ofNat_lt]
  have h1 := h.1.2.1
  unfold Fin64 at h1
  have := rv_le double (show X % 9223372036854775808 ≤ 9218868437227405311 by omega)
  unfold mv
  omega

/-- the halving loop, its relation: 'j' rounds to come -/
def Dn (X0 j X n : Nat) : Prop := dn j X n = dn 128 X0 0 ∧ Bd X (1074 + j) ∧ sg X = false ∧ 2 ^ 925 ≤ mv X ∧ n + j = 128
theorem Dn.start {X : Nat} (h : LogArg X) : Dn X 128 X 0 := ⟨rfl, h.1, h.2.1, h.2.2, rfl⟩
theorem Dn.step {X0 j X n : Nat} (h : Dn X0 (j + 1) X n) (hg : fge .f64 X 4609434218613702656 = true) : Dn X0 j (fop .quo .f64 X c2) (n + 1) := by
  obtain ⟨h1, h2, h3, h4, h5⟩ := h
  obtain ⟨g1, g2, g3⟩ := half_step h2 h3 h4 hg (by omega)
  refine ⟨?_, g1, g2, g3, by omega⟩
  rw [← h1]
  show _ = (if fge .f64 X 4609434218613702656 then dn j (fop .quo .f64 X 4611686018427387904) (n + 1) else (X, n))
  rw [hg]; rfl
theorem Dn.pos {X0 j X n : Nat} (h : Dn X0 j X n) (hg : fge .f64 X 4609434218613702656 = true) : ∃ i, j = i + 1 := by
  cases j with
  | zero => have := half_end h.2.1 h.2.2.1; rw [hg] at this; cases this
  | succ i => exact ⟨i, rfl⟩
theorem Dn.stop {X0 j X n : Nat} (h : Dn X0 j X n) (hg : fge .f64 X 4609434218613702656 = false) : dn 128 X0 0 = (X, n) ∧ mv X < 3 * 2 ^ 1073 ∧ n ≤ 128 := by
  obtain ⟨h1, h2, h3, h4, h5⟩ := h
  refine ⟨?_, ?_, by omega⟩
  · rw [← h1]
    cases j with
    | zero => rfl
    | succ j => simp only [dn, hg]; rfl
  · rw [fge_fin h2.2.1 c15_fin, decide_eq_false_iff_not, c15_val, svd_pos h3] at hg
    have e : (3 * 2 ^ 1073 : Int) = ((3 * 2 ^ 1073 : Nat) : Int) := by norm_cast
    rw [e, Int.ofNat_le] at hg
    omega

/-- the doubling loop -/
def Up (Y0 j X n : Nat) : Prop := up j X n = up 149 Y0 0 ∧ Bd X 1075 ∧ sg X = false ∧ 2 ^ (1074 - j) ≤ mv X ∧ n + j = 149 ∧ mv X < 3 * 2 ^ 1073
theorem Up.start {X : Nat} (h2 : Fin64 X) (h3 : sg X = false) (h4 : 2 ^ 925 ≤ mv X) (h5 : mv X < 3 * 2 ^ 1073) (hl : X < 18446744073709551616) : Up X 149 X 0 := by
  refine ⟨rfl, ⟨hl, h2, ?_⟩, h3, h4, rfl, h5⟩
  have h3 : 3 * 2 ^ 1073 ≤ (2 : Nat) ^ 1075 := by decide +kernel
  omega
theorem lt_of_flt {X : Nat} (h2 : Bd X 1075) (h3 : sg X = false) (hg : flt .f64 X 4604930618986332160 = true) : mv X < 3 * 2 ^ 1072 := by
  rw [flt_fin h2.2.1 c075_fin, decide_eq_true_eq, c075_val, svd_pos h3] at hg
  have e : (3 * 2 ^ 1072 : Int) = ((3 * 2 ^ 1072 : Nat) : Int) := by norm_cast
  rw [e, Int.ofNat_lt] at hg
  exact hg
theorem Up.step {Y0 j X n : Nat} (h : Up Y0 (j + 1) X n) (hg : flt .f64 X 4604930618986332160 = true) : Up Y0 j (fop .mul .f64 X c2) (n + 1) := by
  obtain ⟨h1, h2, h3, h4, h5, h6⟩ := h
  obtain ⟨g1, g2, g3⟩ := double_step h2 h3 h4 hg (by omega)
  refine ⟨?_, g1, g2, g3, by omega, ?_⟩
  · rw [← h1]
    show _ = (if flt .f64 X 4604930618986332160 then up j (fop .mul .f64 X 4611686018427387904) (n + 1) else (X, n))
    rw [hg]; rfl
  · have hm := lt_of_flt h2 h3 hg
    have hn := (near_mul h2.2.1 two_fin).1
    rw [two_mv] at hn
    -- the word before 1.5 holds it
    obtain ⟨k1, k2, k3⟩ := hn
    have hmx : mv X ≤ 3 * 2 ^ 1072 - 2 ^ 1021 := by
      obtain ⟨r0, hr0, hr1⟩ : ∃ r0, r0 = X % 9223372036854775808 ∧ mv X = rv double r0 := ⟨_, rfl, rfl⟩
      rw [hr1]
      have e1 : rv double 4604930618986332159 = 3 * 2 ^ 1072 - 2 ^ 1021 := by decide +kernel
      have e2 : rv double 4604930618986332160 = 3 * 2 ^ 1072 := by decide +kernel
      rw [← e1]
      refine rv_le double ?_
      rcases Nat.lt_or_ge r0 4604930618986332160 with g | g
      · omega
      · have := rv_le double g
        rw [e2, ← hr1] at this
        omega
    have e3 : rv double 4609434218613702655 = 3 * 2 ^ 1073 - 2 ^ 1022 := by decide +kernel
    have := (k3 4609434218613702655 (by decide)).1 (by
      rw [e3]
      have h7 : (3 * 2 ^ 1072 - 2 ^ 1021) * 2 ^ 1075 = (3 * 2 ^ 1073 - 2 ^ 1022) * (2 ^ 1074 : Nat) := by decide +kernel
      rw [← h7]
      exact Nat.mul_le_mul_right _ hmx)
    have h8 := rv_le double this
    rw [e3] at h8
    show rv double (fop .mul .f64 X c2 % 9223372036854775808) < _
    have h9 : 3 * 2 ^ 1073 - 2 ^ 1022 < (3 * 2 ^ 1073 : Nat) := by decide +kernel
    exact Nat.lt_of_le_of_lt h8 h9
theorem Up.pos {Y0 j X n : Nat} (h : Up Y0 j X n) (hg : flt .f64 X 4604930618986332160 = true) : ∃ i, j = i + 1 := by
  cases j with
  | zero => have := double_end h.2.1 h.2.2.1 h.2.2.2.1; rw [hg] at this; cases this
  | succ i => exact ⟨i, rfl⟩
theorem Up.stop {Y0 j X n : Nat} (h : Up Y0 j X n) (hg : flt .f64 X 4604930618986332160 = false) :
    up 149 Y0 0 = (X, n) ∧ 3 * 2 ^ 1072 ≤ mv X ∧ mv X < 3 * 2 ^ 1073 ∧ Bd X 1075 ∧ sg X = false ∧ n ≤ 149 := by
  obtain ⟨h1, h2, h3, h4, h5, h6⟩ := h
  refine ⟨?_, ?_, h6, h2, h3, by omega⟩
  · rw [← h1]
    cases j with
    | zero => rfl
    | succ j => simp only [up, hg]; rfl
  · rw [flt_fin h2.2.1 c075_fin, decide_eq_false_iff_not, c075_val, svd_pos h3] at hg
    have e : (3 * 2 ^ 1072 : Int) = ((3 * 2 ^ 1072 : Nat) : Int) := by norm_cast
    rw [e, Int.ofNat_lt] at hg
    omega

/-- the two loops, one behind the other -/
theorem logF_eq {X0 Y Z n m : Nat} (h : dn 128 X0 0 = (Y, n)) (h' : up 149 Y 0 = (Z, m)) : logF X0 = logTail Z ((n : Int) - (m : Int)) := by
  unfold logF; rw [h]; simp only [h']

/-- the bounds of the series -/
theorem bd_c1 : Bd c1 1074 := one_bd
theorem bd_c2 : Bd c2 1075 := ⟨by decide, by unfold Fin64; decide, by decide +kernel⟩
theorem bd_ser {u : Nat} (hu : Bd u 1074) : ∀ (j q p : Nat), j ≤ 13 → Bd q p → 1075 ≤ p → p + j ≤ 1300 → Bd (ser u j q) (p + j)
  | 0, q, p, _, hq, _, _ => hq
  | j + 1, q, p, hj, hq, hp, hs => by
    have e1 : (2 : Nat) ^ 1074 ≤ mv (fi (2 * ((j + 1 : Nat) : Int) - 1)) := by
      have hall : (List.range 13).all (fun j => decide ((2 : Nat) ^ 1074 ≤ mv (fi (2 * ((j + 1 : Nat) : Int) - 1)))) = true := by decide +kernel
      exact of_decide_eq_true (List.all_eq_true.1 hall j (List.mem_range.2 (by omega)))
    have e2 : Fin64 (fi (2 * ((j + 1 : Nat) : Int) - 1)) := (fi_bd (by omega) (by omega)).2.1
    have h1 := (bd_quo (r := 1075) bd_c1 e2 e1 (by omega) (by omega)).1
    have h2 := bd_mul (r := p) hu hq (by omega) (by omega)
    have h3 := bd_add (h1.mono hp) h2 (by omega)
    have := bd_ser hu j _ (p + 1) (by omega) h3 (by omega) (by omega)
    rw [show p + (j + 1) = p + 1 + j by omega]
    exact this
theorem bd_tail {Z : Nat} {e : Int} (h1 : 3 * 2 ^ 1072 ≤ mv Z) (h2 : mv Z < 3 * 2 ^ 1073) (h3 : Bd Z 1075) (h4 : sg Z = false) (he : -300 ≤ e) (he' : e < 300) : Bd (logTail Z e) 1091 := by
  have s1 : Bd (fop .sub .f64 Z c1) 1073 := by
    refine (near_sub h3.2.1 one_bd.2.1).1.bd (by omega) ?_
    rw [svd_pos h4, one_val, Nat.mul_one]
    have e3 : (3 * 2 ^ 1072 : Nat) = 2 ^ 1074 - 2 ^ 1072 := by decide +kernel
    have e4 : (3 * 2 ^ 1073 : Nat) = 2 ^ 1074 + 2 ^ 1073 := by decide +kernel
    have e5 : (2 ^ 1072 : Nat) ≤ 2 ^ 1073 := by decide +kernel
    have e6 : (2 ^ 1072 : Nat) ≤ 2 ^ 1074 := by decide +kernel
    have e7 : ((2 : Int) ^ 1074) = ((2 ^ 1074 : Nat) : Int) := by norm_cast
    rw [e7]
    rw [e3] at h1
    rw [e4] at h2
    generalize (2 : Nat) ^ 1074 = a at *
    generalize (2 : Nat) ^ 1073 = b at *
    generalize (2 : Nat) ^ 1072 = c at *
    omega
  have s2 : 2 ^ 1074 ≤ mv (fop .add .f64 Z c1) := by
    refine (near_add h3.2.1 one_bd.2.1).1.lo (by omega) ?_
    rw [svd_pos h4, one_val, Nat.mul_one]
    have e7 : ((2 : Int) ^ 1074) = ((2 ^ 1074 : Nat) : Int) := by norm_cast
    rw [e7]
    generalize (2 : Nat) ^ 1074 = a at *
    omega
  have s3 := (bd_add h3 (one_bd.mono (q := 1075) (by omega)) (by omega)).2.1
  have s := (bd_quo (r := 1074) s1 s3 s2 (by omega) (by omega)).1
  have u := bd_mul (r := 1074) s s (by omega) (by omega)
  have q := bd_ser u 13 0 1075 (by omega) ⟨by omega, by unfold Fin64; decide, by decide +kernel⟩ (by omega) (by omega)
  have sq := bd_mul (r := 1088) s q (by omega) (by omega)
  have sq2 := bd_mul (r := 1089) bd_c2 sq (by omega) (by omega)
  have l2 : Bd 4604418534313441775 1074 := ⟨by decide, by unfold Fin64; decide, by decide +kernel⟩
  have el := bd_mul (r := 1089) (fi_bd he he') l2 (by omega) (by omega)
  have := bd_add sq2 el (by omega)
  exact this.mono (by omega)

theorem bd_log {X : Nat} (h : ∃ Y Z n m : Nat, dn 128 X 0 = (Y, n) ∧ up 149 Y 0 = (Z, m) ∧ n ≤ 128 ∧ m ≤ 149 ∧ 3 * 2 ^ 1072 ≤ mv Z ∧ mv Z < 3 * 2 ^ 1073 ∧ Bd Z 1075 ∧ sg Z = false) : Bd (logF X) 1091 := by
  obtain ⟨Y, Z, n, m, h1, h2, h3, h4, h5, h6, h7, h8⟩ := h
  rw [logF_eq h1 h2]
  exact bd_tail h5 h6 h7 h8 (by omega) (by omega)

/-- a finite 32-bit number greater than 0, as a 64-bit number -/
theorem logArg_wid {X : Nat} (hX : Can .f32 X) (h1 : X % 2147483648 < 2139095040) (h2 : X < 2147483648) (h3 : X ≠ 0) : LogArg (wid X) := by
  have hn : isn .f32 X = false := by rw [isn32, decide_eq_false_iff_not]; omega
  obtain ⟨r0, g1, g2, g3, g4⟩ := wid_cases (can32_lt hX) hn
  obtain ⟨k1, k2⟩ := g3 h1
  have hs := wid_sign (can32_lt hX) hn
  rw [decide_eq_false (show ¬ 2147483648 ≤ X by omega), decide_eq_false_iff_not] at hs
  have hr : wid X % 9223372036854775808 = r0 := by rw [g2]; exact (word64_lt g1).2.1
  have hlt : wid X < 18446744073709551616 := by rw [g2]; exact (word64_lt g1).1
  have hmv : mv (wid X) = rv single (X % 2147483648) * 2 ^ 925 := by unfold mv; rw [hr, k2]
  refine ⟨⟨hlt, by unfold Fin64; omega, ?_⟩, ?_, ?_⟩
  · rw [hmv]
    have h5 : rv single (X % 2147483648) ≤ rv single 2139095039 := rv_le single (by omega)
    have h6 : rv single 2139095039 ≤ 2 ^ 277 := by decide +kernel
    have h7 := Nat.mul_le_mul_right (2 ^ 925) (Nat.le_trans h5 h6)
    rw [← Nat.pow_add] at h7
    exact h7
  · show ng FloatKind.f64.format (wid X) = false
    rw [ng64, Nat.div_eq_of_lt (by omega)]; rfl
  · rw [hmv]
    have h5 : rv single 1 ≤ rv single (X % 2147483648) := rv_le single (by omega)
    have h6 : rv single 1 = 1 := by decide +kernel
    have h7 := Nat.mul_le_mul_right (2 ^ 925) (Nat.le_trans (Nat.le_of_eq h6.symm) h5)
    rw [Nat.one_mul] at h7
    exact h7
end Go.Fl
