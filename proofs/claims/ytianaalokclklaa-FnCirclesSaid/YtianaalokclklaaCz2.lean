/-
  PLAIN LAWS AND CONTRACTS, part 2.
-/
import Derived.Test.YtianaalokclklaaCz1
import GoSem.Extern.MathFloor

/-
  PLAIN LAWS: the logarithm: its loops as functions; the counter; the bounds of the series. (No program here.)
-/
section
set_option exponentiation.threshold 5000
set_option linter.unusedVariables false
set_option linter.unusedSimpArgs false
namespace Go.Fl
open Go Ieee

def fi (n : Int) : Nat := floatOfInt .f64 n
abbrev c1 : Nat := 4607182418800017408
abbrev c2 : Nat := 4611686018427387904

/-- the counter as a float goes up and down exactly -/
theorem fi_up_all : (List.range 600).all (fun n => fop .add .f64 (fi ((n : Int) - 300)) c1 == fi ((n : Int) - 300 + 1)) = true := by decide +kernel
theorem fi_dn_all : (List.range 600).all (fun n => fop .sub .f64 (fi ((n : Int) - 300)) c1 == fi ((n : Int) - 300 - 1)) = true := by decide +kernel
theorem fi_up {j : Int} (h : -300 ≤ j) (h' : j < 300) : fop .add .f64 (fi j) c1 = fi (j + 1) := by
  have := List.all_eq_true.1 fi_up_all (j + 300).toNat (List.mem_range.2 (by omega))
  rw [beq_iff_eq, show (((j + 300).toNat : Nat) : Int) - 300 = j by omega] at this
  exact this
theorem fi_dn {j : Int} (h : -300 ≤ j) (h' : j < 300) : fop .sub .f64 (fi j) c1 = fi (j - 1) := by
  have := List.all_eq_true.1 fi_dn_all (j + 300).toNat (List.mem_range.2 (by omega))
  rw [beq_iff_eq, show (((j + 300).toNat : Nat) : Int) - 300 = j by omega] at this
  exact this
theorem fi_zero : fi 0 = 0 := by decide +kernel
theorem fi_can_all : (List.range 600).all (fun n => decide (fi ((n : Int) - 300) < 18446744073709551616) && decide (fi ((n : Int) - 300) % 9223372036854775808 ≤ 4643985272004935680)) = true := by decide +kernel
theorem fi_bd {j : Int} (h : -300 ≤ j) (h' : j < 300) : Bd (fi j) 1083 := by
  have := List.all_eq_true.1 fi_can_all (j + 300).toNat (List.mem_range.2 (by omega))
  rw [Bool.and_eq_true, decide_eq_true_eq, decide_eq_true_eq, show (((j + 300).toNat : Nat) : Int) - 300 = j by omega] at this
  refine ⟨this.1, by unfold Fin64; omega, ?_⟩
  unfold mv
  refine Nat.le_trans (rv_le double this.2) ?_
  decide +kernel

/-- the series, 'j' rounds to come -/
def ser (u : Nat) : Nat → Nat → Nat
  | 0, q => q
  | j + 1, q => ser u j (fop .add .f64 (fop .quo .f64 c1 (fi (2 * ((j + 1 : Nat) : Int) - 1))) (fop .mul .f64 u q))

def logS (Z : Nat) : Nat := fop .quo .f64 (fop .sub .f64 Z c1) (fop .add .f64 Z c1)
def logU (Z : Nat) : Nat := fop .mul .f64 (logS Z) (logS Z)
def logTail (Z : Nat) (e : Int) : Nat :=
  fop .add .f64 (fop .mul .f64 c2 (fop .mul .f64 (logS Z) (ser (logU Z) 13 0))) (fop .mul .f64 (fi e) 4604418534313441775)
def logF (X : Nat) : Nat := logTail (up 149 (dn 128 X 0).1 0).1 (((dn 128 X 0).2 : Int) - ((up 149 (dn 128 X 0).1 0).2 : Int))

/-- what the logarithm is taken of -/
def LogArg (X : Nat) : Prop := Bd X 1202 ∧ sg X = false ∧ 2 ^ 925 ≤ mv X

theorem LogArg.pos {X : Nat} (h : LogArg X) : 0 < mv X := Nat.lt_of_lt_of_le (Nat.two_pow_pos 925) h.2.2
theorem zero_fin : Fin64 0 := by unfold Fin64; decide
theorem zero_val : svd 0 = 0 := by decide +kernel
theorem LogArg.n1 {X : Nat} (h : LogArg X) : fne .f64 X X = false := by
  rw [Bool.eq_false_iff]; intro g
  rcases (fne_iff _ _ _).1 g with g | g | g
  · rw [not_nan h.1.2.1] at g; cases g
  · rw [not_nan h.1.2.1] at g; cases g
  · exact g rfl
theorem LogArg.n2 {X : Nat} (h : LogArg X) : flt .f64 X 0 = false := by
  rw [flt_fin h.1.2.1 zero_fin, decide_eq_false_iff_not, zero_val, svd_pos h.2.1]; omega
theorem LogArg.n3 {X : Nat} (h : LogArg X) : feq .f64 X 0 = false := by
  rw [Bool.eq_false_iff]; intro g
  have := ((feq_iff _ _ _).1 g).2.2
  rw [show FloatKind.f64.format = double from rfl, svd_eq, svd_eq, zero_val, svd_pos h.2.1] at this
  have := h.pos
  omega
theorem LogArg.n4 {X : Nat} (h : LogArg X) : fgt .f64 X 9218868437227405311 = false := by
  rw [fgt_fin h.1.2.1 (by unfold Fin64; decide), decide_eq_false_iff_not, svd_pos h.2.1]
  have e1 : svd 9218868437227405311 = ((rv double 9218868437227405311 : Nat) : Int) := by decide +kernel
  rw [e1, Int.ofNat_lt]
  have h1 := h.1.2.1
  unfold Fin64 at h1
  have := rv_le double (show X % 9223372036854775808 ≤ 9218868437227405311 by omega)
  unfold mv
  omega

/-- the halving loop, its relation: 'j' rounds to come -/
def Dn (X0 j X n : Nat) : Prop := dn j X n = dn 128 X0 0 ∧ Bd X (1074 + j) ∧ sg X = false ∧ 2 ^ 925 ≤ mv X ∧ n + j = 128
theorem Dn.start {X : Nat} (h : LogArg X) : Dn X 128 X 0 := ⟨rfl, h.1, h.2.1, h.2.2, rfl⟩
theorem Dn.step {X0 j X n : Nat} (h : Dn X0 (j + 1) X n) (hg : fge .f64 X 4609434218613702656 = true) : Dn X0 j (fop .quo .f64 X c2) (n + 1) := by
  obtain ⟨h1, h2, h3, h4, h5⟩ := h
  obtain ⟨g1, g2, g3⟩ := half_step h2 h3 h4 hg (by omega)
  refine ⟨?_, g1, g2, g3, by omega⟩
  rw [← h1]
  show _ = (if fge .f64 X 4609434218613702656 then dn j (fop .quo .f64 X 4611686018427387904) (n + 1) else (X, n))
  rw [hg]; rfl
theorem Dn.pos {X0 j X n : Nat} (h : Dn X0 j X n) (hg : fge .f64 X 4609434218613702656 = true) : ∃ i, j = i + 1 := by
  cases j with
  | zero => have := half_end h.2.1 h.2.2.1; rw [hg] at this; cases this
  | succ i => exact ⟨i, rfl⟩
theorem Dn.stop {X0 j X n : Nat} (h : Dn X0 j X n) (hg : fge .f64 X 4609434218613702656 = false) : dn 128 X0 0 = (X, n) ∧ mv X < 3 * 2 ^ 1073 ∧ n ≤ 128 := by
  obtain ⟨h1, h2, h3, h4, h5⟩ := h
  refine ⟨?_, ?_, by omega⟩
  · rw [← h1]
    cases j with
    | zero => rfl
    | succ j => simp only [dn, hg]; rfl
  · rw [fge_fin h2.2.1 c15_fin, decide_eq_false_iff_not, c15_val, svd_pos h3] at hg
    have e : (3 * 2 ^ 1073 : Int) = ((3 * 2 ^ 1073 : Nat) : Int) := by norm_cast
    rw [e, Int.ofNat_le] at hg
    omega

/-- the doubling loop -/
def Up (Y0 j X n : Nat) : Prop := up j X n = up 149 Y0 0 ∧ Bd X 1075 ∧ sg X = false ∧ 2 ^ (1074 - j) ≤ mv X ∧ n + j = 149 ∧ mv X < 3 * 2 ^ 1073
theorem Up.start {X : Nat} (h2 : Fin64 X) (h3 : sg X = false) (h4 : 2 ^ 925 ≤ mv X) (h5 : mv X < 3 * 2 ^ 1073) (hl : X < 18446744073709551616) : Up X 149 X 0 := by
  refine ⟨rfl, ⟨hl, h2, ?_⟩, h3, h4, rfl, h5⟩
  have h3 : 3 * 2 ^ 1073 ≤ (2 : Nat) ^ 1075 := by decide +kernel
  omega
theorem lt_of_flt {X : Nat} (h2 : Bd X 1075) (h3 : sg X = false) (hg : flt .f64 X 4604930618986332160 = true) : mv X < 3 * 2 ^ 1072 := by
  rw [flt_fin h2.2.1 c075_fin, decide_eq_true_eq, c075_val, svd_pos h3] at hg
  have e : (3 * 2 ^ 1072 : Int) = ((3 * 2 ^ 1072 : Nat) : Int) := by norm_cast
  rw [e, Int.ofNat_lt] at hg
  exact hg
theorem Up.step {Y0 j X n : Nat} (h : Up Y0 (j + 1) X n) (hg : flt .f64 X 4604930618986332160 = true) : Up Y0 j (fop .mul .f64 X c2) (n + 1) := by
  obtain ⟨h1, h2, h3, h4, h5, h6⟩ := h
  obtain ⟨g1, g2, g3⟩ := double_step h2 h3 h4 hg (by omega)
  refine ⟨?_, g1, g2, g3, by omega, ?_⟩
  · rw [← h1]
    show _ = (if flt .f64 X 4604930618986332160 then up j (fop .mul .f64 X 4611686018427387904) (n + 1) else (X, n))
    rw [hg]; rfl
  · have hm := lt_of_flt h2 h3 hg
    have hn := (near_mul h2.2.1 two_fin).1
    rw [two_mv] at hn
    -- the word before 1.5 holds it
    obtain ⟨k1, k2, k3⟩ := hn
    have hmx : mv X ≤ 3 * 2 ^ 1072 - 2 ^ 1021 := by
      obtain ⟨r0, hr0, hr1⟩ : ∃ r0, r0 = X % 9223372036854775808 ∧ mv X = rv double r0 := ⟨_, rfl, rfl⟩
      rw [hr1]
      have e1 : rv double 4604930618986332159 = 3 * 2 ^ 1072 - 2 ^ 1021 := by decide +kernel
      have e2 : rv double 4604930618986332160 = 3 * 2 ^ 1072 := by decide +kernel
      rw [← e1]
      refine rv_le double ?_
      rcases Nat.lt_or_ge r0 4604930618986332160 with g | g
      · omega
      · have := rv_le double g
        rw [e2, ← hr1] at this
        omega
    have e3 : rv double 4609434218613702655 = 3 * 2 ^ 1073 - 2 ^ 1022 := by decide +kernel
    have := (k3 4609434218613702655 (by decide)).1 (by
      rw [e3]
      have h7 : (3 * 2 ^ 1072 - 2 ^ 1021) * 2 ^ 1075 = (3 * 2 ^ 1073 - 2 ^ 1022) * (2 ^ 1074 : Nat) := by decide +kernel
      rw [← h7]
      exact Nat.mul_le_mul_right _ hmx)
    have h8 := rv_le double this
    rw [e3] at h8
    show rv double (fop .mul .f64 X c2 % 9223372036854775808) < _
    have h9 : 3 * 2 ^ 1073 - 2 ^ 1022 < (3 * 2 ^ 1073 : Nat) := by decide +kernel
    exact Nat.lt_of_le_of_lt h8 h9
theorem Up.pos {Y0 j X n : Nat} (h : Up Y0 j X n) (hg : flt .f64 X 4604930618986332160 = true) : ∃ i, j = i + 1 := by
  cases j with
  | zero => have := double_end h.2.1 h.2.2.1 h.2.2.2.1; rw [hg] at this; cases this
  | succ i => exact ⟨i, rfl⟩
theorem Up.stop {Y0 j X n : Nat} (h : Up Y0 j X n) (hg : flt .f64 X 4604930618986332160 = false) :
    up 149 Y0 0 = (X, n) ∧ 3 * 2 ^ 1072 ≤ mv X ∧ mv X < 3 * 2 ^ 1073 ∧ Bd X 1075 ∧ sg X = false ∧ n ≤ 149 := by
  obtain ⟨h1, h2, h3, h4, h5, h6⟩ := h
  refine ⟨?_, ?_, h6, h2, h3, by omega⟩
  · rw [← h1]
    cases j with
    | zero => rfl
    | succ j => simp only [up, hg]; rfl
  · rw [flt_fin h2.2.1 c075_fin, decide_eq_false_iff_not, c075_val, svd_pos h3] at hg
    have e : (3 * 2 ^ 1072 : Int) = ((3 * 2 ^ 1072 : Nat) : Int) := by norm_cast
    rw [e, Int.ofNat_lt] at hg
    omega

/-- the two loops, one behind the other -/
theorem logF_eq {X0 Y Z n m : Nat} (h : dn 128 X0 0 = (Y, n)) (h' : up 149 Y 0 = (Z, m)) : logF X0 = logTail Z ((n : Int) - (m : Int)) := by
  unfold logF; rw [h]; simp only [h']

/-- the bounds of the series -/
theorem bd_c1 : Bd c1 1074 := one_bd
theorem bd_c2 : Bd c2 1075 := ⟨by decide, by unfold Fin64; decide, by decide +kernel⟩
theorem bd_ser {u : Nat} (hu : Bd u 1074) : ∀ (j q p : Nat), j ≤ 13 → Bd q p → 1075 ≤ p → p + j ≤ 1300 → Bd (ser u j q) (p + j)
  | 0, q, p, _, hq, _, _ => hq
  | j + 1, q, p, hj, hq, hp, hs => by
    have e1 : (2 : Nat) ^ 1074 ≤ mv (fi (2 * ((j + 1 : Nat) : Int) - 1)) := by
      have hall : (List.range 13).all (fun j => decide ((2 : Nat) ^ 1074 ≤ mv (fi (2 * ((j + 1 : Nat) : Int) - 1)))) = true := by decide +kernel
      exact of_decide_eq_true (List.all_eq_true.1 hall j (List.mem_range.2 (by omega)))
    have e2 : Fin64 (fi (2 * ((j + 1 : Nat) : Int) - 1)) := (fi_bd (by omega) (by omega)).2.1
    have h1 := (bd_quo (r := 1075) bd_c1 e2 e1 (by omega) (by omega)).1
    have h2 := bd_mul (r := p) hu hq (by omega) (by omega)
    have h3 := bd_add (h1.mono hp) h2 (by omega)
    have := bd_ser hu j _ (p + 1) (by omega) h3 (by omega) (by omega)
    rw [show p + (j + 1) = p + 1 + j by omega]
    exact this
theorem bd_tail {Z : Nat} {e : Int} (h1 : 3 * 2 ^ 1072 ≤ mv Z) (h2 : mv Z < 3 * 2 ^ 1073) (h3 : Bd Z 1075) (h4 : sg Z = false) (he : -300 ≤ e) (he' : e < 300) : Bd (logTail Z e) 1091 := by
  have s1 : Bd (fop .sub .f64 Z c1) 1073 := by
    refine (near_sub h3.2.1 one_bd.2.1).1.bd (by omega) ?_
    rw [svd_pos h4, one_val, Nat.mul_one]
    have e3 : (3 * 2 ^ 1072 : Nat) = 2 ^ 1074 - 2 ^ 1072 := by decide +kernel
    have e4 : (3 * 2 ^ 1073 : Nat) = 2 ^ 1074 + 2 ^ 1073 := by decide +kernel
    have e5 : (2 ^ 1072 : Nat) ≤ 2 ^ 1073 := by decide +kernel
    have e6 : (2 ^ 1072 : Nat) ≤ 2 ^ 1074 := by decide +kernel
    have e7 : ((2 : Int) ^ 1074) = ((2 ^ 1074 : Nat) : Int) := by norm_cast
    rw [e7]
    rw [e3] at h1
    rw [e4] at h2
    generalize (2 : Nat) ^ 1074 = a at *
    generalize (2 : Nat) ^ 1073 = b at *
    generalize (2 : Nat) ^ 1072 = c at *
    omega
  have s2 : 2 ^ 1074 ≤ mv (fop .add .f64 Z c1) := by
    refine (near_add h3.2.1 one_bd.2.1).1.lo (by omega) ?_
    rw [svd_pos h4, one_val, Nat.mul_one]
    have e7 : ((2 : Int) ^ 1074) = ((2 ^ 1074 : Nat) : Int) := by norm_cast
    rw [e7]
    generalize (2 : Nat) ^ 1074 = a at *
    omega
  have s3 := (bd_add h3 (one_bd.mono (q := 1075) (by omega)) (by omega)).2.1
  have s := (bd_quo (r := 1074) s1 s3 s2 (by omega) (by omega)).1
  have u := bd_mul (r := 1074) s s (by omega) (by omega)
  have q := bd_ser u 13 0 1075 (by omega) ⟨by omega, by unfold Fin64; decide, by decide +kernel⟩ (by omega) (by omega)
  have sq := bd_mul (r := 1088) s q (by omega) (by omega)
  have sq2 := bd_mul (r := 1089) bd_c2 sq (by omega) (by omega)
  have l2 : Bd 4604418534313441775 1074 := ⟨by decide, by unfold Fin64; decide, by decide +kernel⟩
  have el := bd_mul (r := 1089) (fi_bd he he') l2 (by omega) (by omega)
  have := bd_add sq2 el (by omega)
  exact this.mono (by omega)

theorem bd_log {X : Nat} (h : ∃ Y Z n m : Nat, dn 128 X 0 = (Y, n) ∧ up 149 Y 0 = (Z, m) ∧ n ≤ 128 ∧ m ≤ 149 ∧ 3 * 2 ^ 1072 ≤ mv Z ∧ mv Z < 3 * 2 ^ 1073 ∧ Bd Z 1075 ∧ sg Z = false) : Bd (logF X) 1091 := by
  obtain ⟨Y, Z, n, m, h1, h2, h3, h4, h5, h6, h7, h8⟩ := h
  rw [logF_eq h1 h2]
  exact bd_tail h5 h6 h7 h8 (by omega) (by omega)

/-- a finite 32-bit number greater than 0, as a 64-bit number -/
theorem logArg_wid {X : Nat} (hX : Can .f32 X) (h1 : X % 2147483648 < 2139095040) (h2 : X < 2147483648) (h3 : X ≠ 0) : LogArg (wid X) := by
  have hn : isn .f32 X = false := by rw [isn32, decide_eq_false_iff_not]; omega
  obtain ⟨r0, g1, g2, g3, g4⟩ := wid_cases (can32_lt hX) hn
  obtain ⟨k1, k2⟩ := g3 h1
  have hs := wid_sign (can32_lt hX) hn
  rw [decide_eq_false (show ¬ 2147483648 ≤ X by omega), decide_eq_false_iff_not] at hs
  have hr : wid X % 9223372036854775808 = r0 := by rw [g2]; exact (word64_lt g1).2.1
  have hlt : wid X < 18446744073709551616 := by rw [g2]; exact (word64_lt g1).1
  have hmv : mv (wid X) = rv single (X % 2147483648) * 2 ^ 925 := by unfold mv; rw [hr, k2]
  refine ⟨⟨hlt, by unfold Fin64; omega, ?_⟩, ?_, ?_⟩
  · rw [hmv]
    have h5 : rv single (X % 2147483648) ≤ rv single 2139095039 := rv_le single (by omega)
    have h6 : rv single 2139095039 ≤ 2 ^ 277 := by decide +kernel
    have h7 := Nat.mul_le_mul_right (2 ^ 925) (Nat.le_trans h5 h6)
    rw [← Nat.pow_add] at h7
    exact h7
  · show ng FloatKind.f64.format (wid X) = false
    rw [ng64, Nat.div_eq_of_lt (by omega)]; rfl
  · rw [hmv]
    have h5 : rv single 1 ≤ rv single (X % 2147483648) := rv_le single (by omega)
    have h6 : rv single 1 = 1 := by decide +kernel
    have h7 := Nat.mul_le_mul_right (2 ^ 925) (Nat.le_trans (Nat.le_of_eq h6.symm) h5)
    rw [Nat.one_mul] at h7
    exact h7
end Go.Fl
end

/-
  PLAIN LAWS: the kinds of 32-bit numbers; what the logarithm of each is. (No program here.)
-/
section
set_option exponentiation.threshold 5000
set_option linter.unusedVariables false
set_option linter.unusedSimpArgs false
namespace Go.Fl
open Go Ieee

theorem qn32 : qn .f32 = 2143289344 := by decide +kernel
theorem f32_kinds {X : Nat} (h : Can .f32 X) :
    X = qn .f32 ∨ X = 0 ∨ X = 2147483648 ∨ X = 2139095040 ∨ (isn .f32 X = false ∧ 2147483648 < X) ∨ (isn .f32 X = false ∧ 0 < X ∧ X < 2139095040) := by
  by_cases hn : isn .f32 X = true
  · exact .inl (h.nan hn)
  · have hn' : isn .f32 X = false := by simpa using hn
    have hlt := can32_lt h
    have h2 := hn'
    rw [isn32, decide_eq_false_iff_not] at h2
    rcases Nat.lt_or_ge X 2147483648 with g | g
    · rcases Nat.eq_zero_or_pos X with g1 | g1
      · exact .inr (.inl g1)
      · rcases Nat.lt_or_ge X 2139095040 with g2 | g2
        · exact .inr (.inr (.inr (.inr (.inr ⟨hn', g1, g2⟩))))
        · exact .inr (.inr (.inr (.inl (by omega))))
    · rcases Nat.eq_or_lt_of_le g with g1 | g1
      · exact .inr (.inr (.inl g1.symm))
      · exact .inr (.inr (.inr (.inr (.inl ⟨hn', g1⟩))))

theorem fne_self {k : FloatKind} {X : Nat} (hn : isn k X = false) : fne k X X = false := by
  rw [Bool.eq_false_iff]; intro g
  rcases (fne_iff _ _ _).1 g with g | g | g
  · rw [hn] at g; cases g
  · rw [hn] at g; cases g
  · exact g rfl

theorem isn_nil (k : FloatKind) : isn k 0 = false := by cases k <;> decide +kernel

/-- a negative number stands below 0, in either width -/
theorem ltz32 {X : Nat} (h : Can .f32 X) (hn : isn .f32 X = false) (h2 : 2147483648 < X) : flt .f32 X 0 = true := by
  have hlt := can32_lt h
  rw [flt_iff]
  refine ⟨hn, isn_nil _, ?_⟩
  have e0 : sv FloatKind.f32.format 0 = 0 := by decide +kernel
  rw [e0]
  unfold sv
  rw [ng32, rg32]
  have e1 : (X / 2147483648 % 2 == 1) = true := by rw [beq_iff_eq]; omega
  rw [if_pos e1]
  have h5 : rv single 1 ≤ rv single (X % 2147483648) := rv_le single (by omega)
  have h6 : rv single 1 = 1 := by decide +kernel
  show -((rv single (X % 2147483648) : Nat) : Int) < 0
  omega
theorem ltz64 {X : Nat} (h : Can .f32 X) (hn : isn .f32 X = false) (h2 : 2147483648 < X) : flt .f64 (wid X) 0 = true := by
  have hlt := can32_lt h
  obtain ⟨r0, g1, g2, g3, g4⟩ := wid_cases hlt hn
  rw [flt_iff]
  have hs := wid_sign hlt hn
  rw [decide_eq_true (show 2147483648 ≤ X by omega), decide_eq_true_eq] at hs
  have hr : wid X % 9223372036854775808 = r0 := by rw [g2]; exact (word64_lt g1).2.1
  have hl : wid X < 18446744073709551616 := by rw [g2]; exact (word64_lt g1).1
  refine ⟨wid_num hlt hn, isn_nil _, ?_⟩
  have e0 : sv FloatKind.f64.format 0 = 0 := by decide +kernel
  rw [e0]
  unfold sv
  rw [ng64, rg64, hr]
  have e1 : (wid X / 9223372036854775808 % 2 == 1) = true := by rw [beq_iff_eq]; omega
  rw [if_pos e1]
  have h7 : 0 < rv double r0 := by
    rw [isn32, decide_eq_false_iff_not] at hn
    rcases Nat.lt_or_ge (X % 2147483648) 2139095040 with g | g
    · rw [(g3 g).2]
      have h5 : rv single 1 ≤ rv single (X % 2147483648) := rv_le single (by omega)
      have h6 : rv single 1 = 1 := by decide +kernel
      exact Nat.mul_pos (by omega) (Nat.two_pow_pos _)
    · rw [g4 (by omega)]; decide +kernel
  show -((rv double r0 : Nat) : Int) < 0
  omega

/-- the logarithm of a 32-bit number -/
def logN (X : Nat) : Nat :=
  if isn .f32 X || (decide (2147483648 < X)) then qn .f32
  else if X % 2147483648 = 0 then 4286578688
  else if X = 2139095040 then X
  else nar (logF (wid X))

theorem pos32 {X : Nat} (h : Can .f32 X) (hn : isn .f32 X = false) (h1 : 0 < X) (h2 : X < 2139095040) : flt .f32 X 0 = false ∧ feq .f32 X 0 = false := by
  have h5 : rv single 1 ≤ rv single (X % 2147483648) := rv_le single (by omega)
  have h6 : rv single 1 = 1 := by decide +kernel
  have e0 : sv FloatKind.f32.format 0 = 0 := by decide +kernel
  have e2 : sv FloatKind.f32.format X = (rv single (X % 2147483648) : Nat) := by
    unfold sv
    rw [ng32, rg32]
    have e1 : (X / 2147483648 % 2 == 1) = false := by rw [Nat.div_eq_of_lt (by omega)]; rfl
    rw [if_neg (by rw [e1]; decide)]
    rfl
  constructor
  · rw [Bool.eq_false_iff]; intro g
    have := ((flt_iff _ _ _).1 g).2.2
    rw [e0, e2] at this; omega
  · rw [Bool.eq_false_iff]; intro g
    have := ((feq_iff _ _ _).1 g).2.2
    rw [e0, e2] at this; omega

theorem pos_fle {X : Nat} (h : Can .f32 X) (hn : isn .f32 X = false) (h1 : 0 < X) (h2 : X < 2139095040) : fle .f32 X 0 = false := by
  have h5 : rv single 1 ≤ rv single (X % 2147483648) := rv_le single (by omega)
  have h6 : rv single 1 = 1 := by decide +kernel
  have e0 : sv FloatKind.f32.format 0 = 0 := by decide +kernel
  have e2 : sv FloatKind.f32.format X = (rv single (X % 2147483648) : Nat) := by
    unfold sv
    rw [ng32, rg32]
    have e1 : (X / 2147483648 % 2 == 1) = false := by rw [Nat.div_eq_of_lt (by omega)]; rfl
    rw [if_neg (by rw [e1]; decide)]
    rfl
  rw [Bool.eq_false_iff]; intro g
  have := ((fle_iff _ _ _).1 g).2.2
  rw [e0, e2] at this; omega
theorem ltz_fle {X : Nat} (h : Can .f32 X) (hn : isn .f32 X = false) (h2 : 2147483648 < X) : fle .f32 X 0 = true := by
  have g := ((flt_iff _ _ _).1 (ltz32 h hn h2))
  exact (fle_iff _ _ _).2 ⟨g.1, g.2.1, Int.le_of_lt g.2.2⟩

/-- a positive finite number's logarithm: what the walk needs -/
theorem bd_logF {X : Nat} (h : LogArg X) : Bd (logF X) 1091 := by
  obtain ⟨j, Y, n, hD, hg⟩ : ∃ j Y n, Dn X j Y n ∧ fge .f64 Y 4609434218613702656 = false := by
    have : ∀ (j Y n : Nat), Dn X j Y n → ∃ j Y n, Dn X j Y n ∧ fge .f64 Y 4609434218613702656 = false := by
      intro j
      induction j with
      | zero => intro Y n h; exact ⟨0, Y, n, h, half_end h.2.1 h.2.2.1⟩
      | succ j ih =>
        intro Y n h
        by_cases hg : fge .f64 Y 4609434218613702656 = true
        · exact ih _ _ (h.step hg)
        · exact ⟨j + 1, Y, n, h, by simpa using hg⟩
    exact this 128 X 0 (Dn.start h)
  have hs := hD.stop hg
  obtain ⟨j', Z, m, hU, hg'⟩ : ∃ j' Z m, Up Y j' Z m ∧ flt .f64 Z 4604930618986332160 = false := by
    have : ∀ (j Z n : Nat), Up Y j Z n → ∃ j Z n, Up Y j Z n ∧ flt .f64 Z 4604930618986332160 = false := by
      intro j
      induction j with
      | zero => intro Z n h; exact ⟨0, Z, n, h, double_end h.2.1 h.2.2.1 h.2.2.2.1⟩
      | succ j ih =>
        intro Z n h
        by_cases hg : flt .f64 Z 4604930618986332160 = true
        · exact ih _ _ (h.step hg)
        · exact ⟨j + 1, Z, n, h, by simpa using hg⟩
    exact this 149 Y 0 (Up.start hD.2.1.2.1 hD.2.2.1 hD.2.2.2.1 hs.2.1 hD.2.1.1)
  have ht := hU.stop hg'
  exact bd_log ⟨Y, Z, n, m, hs.1, ht.1, hs.2.2, ht.2.2.2.2.2, ht.2.1, ht.2.2.1, ht.2.2.2.1, ht.2.2.2.2.1⟩
/-- the tenths of decibels, as a float; as an integer -/
def tenX (X : Nat) : Nat := fop .add .f64 (fop .mul .f64 (logF (wid X)) 4631308968768463603) 4602678819172646912
theorem bd_tenX {X : Nat} (h : LogArg (wid X)) : Bd (tenX X) 1098 := by
  have a := bd_logF h
  have c : Bd 4631308968768463603 1080 := ⟨by decide, by unfold Fin64; decide, by decide +kernel⟩
  have d : Bd 4602678819172646912 1097 := ⟨by decide, by unfold Fin64; decide, by decide +kernel⟩
  exact bd_add (bd_mul (r := 1097) a c (by omega) (by omega)) d (by omega)


end Go.Fl
end

/-
  WHOLE NUMBERS OF FLOATS: floor, trunc, and the conversion to a 64-bit integer: where the number is not too great. (No program here.)
-/
section
set_option exponentiation.threshold 5000
set_option linter.unusedVariables false
set_option linter.unusedSimpArgs false
namespace Go.Fl
open Go Ieee

/-- made whole -/
def fcut (way : Toward) (X : Nat) : Nat := double.write ((double.read X).integral way)
/-- as an integer, cut towards zero -/
def toI (X : Nat) : Int := ((double.read X).toInt .zero).getD 0

theorem cut_low (way : Toward) (s : Bool) (n d : Nat) : way.cut s n d ≤ n / 2 ^ d + 1 ∧ Toward.zero.cut s n d = n / 2 ^ d := by
  have key : n / (1 <<< min d (n.log2 + 2)) = n / 2 ^ d := by
    rw [Nat.shiftLeft_eq, Nat.one_mul]
    rcases Nat.le_total d (n.log2 + 2) with g | g
    · rw [Nat.min_eq_left g]
    · rw [Nat.min_eq_right g]
      have h1 : n < 2 ^ (n.log2 + 2) := by
        rcases Nat.eq_zero_or_pos n with g0 | g0
        · rw [g0]; exact Nat.two_pow_pos _
        · exact Nat.lt_of_lt_of_le (Nat.lt_log2_self) (two_pow_le (by omega))
      rw [Nat.div_eq_of_lt h1, Nat.div_eq_of_lt (Nat.lt_of_lt_of_le h1 (two_pow_le g))]
  constructor
  · unfold Toward.cut
    simp only [key]
    refine Nat.add_le_add_left ?_ _
    exact Bool.toNat_le _
  · unfold Toward.cut
    simp only [key]
    rfl

/-- the whole part's magnitude -/
theorem cut_mag {m : Nat} {i : Int} {V : Nat} (hi : -1074 ≤ i) (hm : m * 2 ^ (i - -1074).toNat = V) : (m <<< i.toNat) / 2 ^ (-i).toNat * 2 ^ 1074 ≤ V := by
  rw [← hm, Nat.shiftLeft_eq]
  rcases Int.le_total 0 i with g | g
  · have e1 : (-i).toNat = 0 := by omega
    have e2 : (i - -1074).toNat = i.toNat + 1074 := by omega
    rw [e1, e2, Nat.pow_zero, Nat.div_one, Nat.pow_add, Nat.mul_assoc]
    exact Nat.le_refl _
  · have e1 : i.toNat = 0 := by omega
    have e2 : 1074 = (i - -1074).toNat + (-i).toNat := by omega
    rw [e1, Nat.pow_zero, Nat.mul_one]
    calc m / 2 ^ (-i).toNat * 2 ^ 1074 = m / 2 ^ (-i).toNat * 2 ^ ((i - -1074).toNat + (-i).toNat) := by rw [← e2]
      _ = (m / 2 ^ (-i).toNat * 2 ^ (-i).toNat) * 2 ^ (i - -1074).toNat := by rw [Nat.pow_add]; ac_rfl
      _ ≤ m * 2 ^ (i - -1074).toNat := Nat.mul_le_mul_right _ (Nat.div_mul_le_self _ _)

theorem fcut_bd {X p : Nat} (way : Toward) (h : Bd X p) (hp : 1074 ≤ p) (hp' : p ≤ 2000) : Bd (fcut way X) (p + 1) := by
  obtain ⟨m, i, h1, h2, h3, _⟩ := h.2.1.read
  unfold fcut
  rw [h1]
  show Bd (double.nearest _ _ _) _
  refine (near_nearest (sg X) (way.cut (sg X) (m <<< i.toNat) (-i).toNat) 0 (way.cut (sg X) (m <<< i.toNat) (-i).toNat * 2 ^ 1074) 1 (by omega) (by
    rw [show ((0 : Int) - -1074).toNat = 1074 by omega, show ((-1074 : Int) - 0).toNat = 0 by omega, Nat.pow_zero])).1.bd (by omega) ?_
  have a := (cut_low way (sg X) (m <<< i.toNat) (-i).toNat).1
  have b := cut_mag h2 h3
  have c := Nat.mul_le_mul_right (2 ^ 1074) a
  rw [Nat.add_mul, Nat.one_mul] at c
  have d := h.2.2
  have e := two_pow_le (a := 1074) (b := p) hp
  rw [Nat.mul_one]
  refine Nat.le_trans c ?_
  rw [show (2 : Nat) ^ (p + 1) = 2 ^ p * 2 from Nat.pow_succ _ _, Nat.mul_two]
  exact Nat.add_le_add (Nat.le_trans b d) e

theorem is_bd {X p : Nat} (h : Bd X p) : Is .f64 X X := by
  refine ⟨by rw [w64]; exact h.1, cn_of_not ?_⟩
  have := h.2.1
  unfold Fin64 at this
  rw [isn64]; exact decide_eq_false (by omega)

theorem is_same {x X p : Nat} (h : Is .f64 x X) (hb : Bd X p) : x = X := by
  by_cases hn : isn .f64 x = true
  · have h1 : X = qn .f64 := by rw [← h.2]; exact cn_of hn
    have h2 := hb.2.1
    rw [h1] at h2
    exact absurd h2 (by unfold Fin64; decide +kernel)
  · rw [← h.2]; exact (cn_of_not (by simpa using hn)).symm

theorem toI_ok {X p : Nat} (h : Bd X p) (hp : p ≤ 1136) : floatToIntVal .f64 X .i64 = some (toI X) ∧ (toI X).natAbs * 2 ^ 1074 ≤ mv X := by
  obtain ⟨m, i, h1, h2, h3, _⟩ := h.2.1.read
  have hc := (cut_low .zero (sg X) (m <<< i.toNat) (-i).toNat).2
  have b := cut_mag h2 h3
  rw [← hc] at b
  have e : (double.read X).toInt .zero = some (signed (sg X) (Toward.zero.cut (sg X) (m <<< i.toNat) (-i).toNat) 0) := by rw [h1]; rfl
  generalize Toward.zero.cut (sg X) (m <<< i.toNat) (-i).toNat = c at *
  have hc2 : c ≤ 2 ^ 62 := by
    have d := Nat.le_trans b (Nat.le_trans h.2.2 (two_pow_le hp))
    rw [show (1136 : Nat) = 62 + 1074 by omega, Nat.pow_add] at d
    exact Nat.le_of_mul_le_mul_right d (Nat.two_pow_pos _)
  rw [show (2 : Nat) ^ 62 = 4611686018427387904 by decide] at hc2
  have hs : (signed (sg X) c 0).natAbs = c := by unfold signed; rw [Nat.shiftLeft_zero]; split <;> omega
  have hi : toI X = signed (sg X) c 0 := by unfold toI; rw [e]; rfl
  constructor
  · unfold floatToIntVal
    show (match (double.read X).toInt .zero with | some n => _ | none => _) = _
    rw [e, hi]
    have k1 : IntKind.i64.min = -9223372036854775808 := by decide
    have k2 : IntKind.i64.max = 9223372036854775807 := by decide
    simp only [k1, k2]
    rw [if_pos (by omega)]
  · rw [hi, hs]; exact b

section
variable {P : Program} {ops : Array Oper} {rest : List Oper} {a : Act} {Q : Exit → Act → World → Prop} {w : World} {dst : Option Tmp} {ty : TypeId} {pos : String} {after : Array Edge} {guard : Option (Nat × Bool)} {x y : Operand} {t t' : TypeId}

theorem run_cut (nm : String) (way : Toward) {X p : Nat} (h : Bd X p) (w : World) : (Extern.MathFloor.toIntegral nm way #[.float .f64 X]).run P w = .ok (.float .f64 (fcut way X)) w := by
  obtain ⟨m, i, h1, h2, h3, _⟩ := h.2.1.read
  have hr : FloatKind.f64.decode X = .number (sg X) m i := h1
  unfold fcut
  rw [h1]
  have e : Extern.MathFloor.toIntegral nm way #[.float .f64 X] = (match FloatKind.f64.decode X with
    | .nan s t =>
      if FloatKind.f64.format.quiet t = t then pure (.float .f64 X) else do
      let kept ← choose (.extern "math.Floor,Ceil,Trunc,RoundToEven.signallingNaN kept" 2)
      pure (.float .f64 (if kept == 1 then X else FloatKind.f64.encode (.nan s (FloatKind.f64.format.quiet t))))
    | d => pure (.float .f64 (FloatKind.f64.encode (d.integral way)))) := rfl
  rw [e, hr]
  rfl

/-- a call of the body-less 'math.archFloor' or 'math.archTrunc' -/
theorem wpList_cut (nm : String) (way : Toward) {f : FuncId} {ats : Array TypeId} {fn : Func} (hf : P.funcs[f]? = some fn) (h1 : (fn.name == "runtime.NumGoroutine") = false)
    (h2 : fn.body.isNone = true) (h3 : Extern.findNext fn = none) (h4 : Extern.find fn = some (Extern.MathFloor.toIntegral nm way)) {bx X p : Nat}
    (hw : Region.wanted ⟨dst, .call { callee := .value (.func f), args := #[x], argTypes := ats }, ty, pos, after, guard⟩ (yielded ops a.tmps) = true) (ex : a.eval x = .float .f64 bx) (hx : Is .f64 bx X) (hb : Bd X p)
    (hK : wpList P ops Q rest (a.put dst (.float .f64 (fcut way X))) w) :
    wpList P ops Q (⟨dst, .call { callee := .value (.func f), args := #[x], argTypes := ats }, ty, pos, after, guard⟩ :: rest) a w := by
  have hs := is_same hx hb
  subst hs
  refine wpList_run (v := .float .f64 (fcut way bx)) (n := 0) hw ?_ (by rw [World.drewN_zero]; exact hK)
  rw [execOp_call_go]
  have e : (#[] ++ Array.map a.eval #[x] ++ #[] : Array Value) = #[.float .f64 bx] := by simp [ex]
  rw [e, run_callFunc_extern hf h1 h2 h3 h4, run_cut nm way hb, World.drewN_zero]
  rfl

/-- a conversion to a 64-bit integer -/
theorem wpList_toint {src d : TypeId} {us : TypeDesc} (hs : P.underlying src = some us) (hd : P.underlying d = some (.int .i64)) {bx X p : Nat}
    (hw : Region.wanted ⟨dst, .convert src d x, ty, pos, after, guard⟩ (yielded ops a.tmps) = true) (ex : a.eval x = .float .f64 bx) (hx : Is .f64 bx X) (hb : Bd X p) (hp : p ≤ 1136)
    (hK : wpList P ops Q rest (a.put dst (.int .i64 (toI X))) w) :
    wpList P ops Q (⟨dst, .convert src d x, ty, pos, after, guard⟩ :: rest) a w := by
  have h1 := is_same hx hb
  subst h1
  refine wpList_run (v := .int .i64 (toI bx)) (n := 0) hw ?_ (by rw [World.drewN_zero]; exact hK)
  have := run_convert_float_int (P := P) w src d .f64 .i64 bx (toI bx) (by rw [hs]; rfl) hd (toI_ok hb hp).1
  simp [execOp, ex, this, World.drewN_zero]
end
end Go.Fl
end

/-
  PLAIN LAWS: what is behind the whole part of a number; sines. (No program here.)
-/
section
set_option exponentiation.threshold 5000
set_option linter.unusedVariables false
set_option linter.unusedSimpArgs false
namespace Go.Fl
open Go Ieee

theorem near_exact {W V r0 : Nat} (h : Near W V 1) (hr : r0 ≤ 9218868437227405312) (e : rv double r0 = V) : W < 18446744073709551616 ∧ W % 9223372036854775808 = r0 := by
  obtain ⟨g1, g2, g3⟩ := h
  obtain ⟨a, b⟩ := g3 r0 hr
  have := a (by rw [e, Nat.mul_one]; exact Nat.le_refl _)
  have := b (by rw [e, Nat.mul_one]; exact Nat.le_refl _)
  exact ⟨g1, by omega⟩

theorem sg_eq (X : Nat) : sg X = (X / 9223372036854775808 % 2 == 1) := ng64 X

theorem word_ext {A B : Nat} (hA : A < 18446744073709551616) (hB : B < 18446744073709551616) (h : A % 9223372036854775808 = B % 9223372036854775808) (hs : sg A = sg B) : A = B := by
  rw [sg_eq, sg_eq, Bool.eq_iff_iff, beq_iff_eq, beq_iff_eq] at hs
  omega

/-- a whole number below 2^53 is exact -/
theorem near_whole (s : Bool) {c : Nat} (hc : c < 9007199254740992) :
    double.nearest s c 0 < 18446744073709551616 ∧ Fin64 (double.nearest s c 0) ∧ mv (double.nearest s c 0) = c * 2 ^ 1074 ∧ sg (double.nearest s c 0) = s := by
  obtain ⟨h1, h2⟩ := near_nearest s c 0 (c * 2 ^ 1074) 1 (by omega) (by
    rw [show ((0 : Int) - -1074).toNat = 1074 by omega, show ((-1074 : Int) - 0).toNat = 0 by omega, Nat.pow_zero])
  obtain ⟨r0, k1, k2⟩ := exists_rung double 1074 c (by rw [bin64]; exact hc)
  rw [bin64] at k2
  have hr : r0 < 9218868437227405312 := Nat.lt_of_lt_of_le k2 (by decide)
  obtain ⟨g1, g2⟩ := near_exact h1 (Nat.le_of_lt hr) k1
  exact ⟨g1, by unfold Fin64; omega, by unfold mv; rw [g2, k1], h2⟩

theorem fi_near (n : Int) : fi n = double.nearest (decide (n < 0)) n.natAbs 0 := rfl

theorem svd_of {X : Nat} {s : Bool} {V : Nat} (h1 : sg X = s) (h2 : mv X = V) : svd X = if s then -(V : Int) else (V : Int) := by unfold svd; rw [h1, h2]

/-- the parts of a number that is not too great -/
theorem parts {X : Nat} (h : Bd X 1126) : ∃ c, c < 9007199254740992 ∧ c * 2 ^ 1074 ≤ mv X ∧ mv X < (c + 1) * 2 ^ 1074 ∧ fcut .zero X = double.nearest (sg X) c 0 ∧ toI X = signed (sg X) c 0 := by
  obtain ⟨m, i, h1, h2, h3, h4⟩ := h.2.1.read
  refine ⟨(m <<< i.toNat) / 2 ^ (-i).toNat, ?_, cut_mag h2 h3, ?_, ?_, ?_⟩
  · have b := Nat.le_trans (cut_mag h2 h3) h.2.2
    rw [show (1126 : Nat) = 52 + 1074 by omega, Nat.pow_add] at b
    have := Nat.le_of_mul_le_mul_right b (Nat.two_pow_pos _)
    rw [show (2 : Nat) ^ 52 = 4503599627370496 by decide] at this
    omega
  · rw [← h3, Nat.shiftLeft_eq]
    rcases Int.le_total 0 i with g | g
    · have e1 : (-i).toNat = 0 := by omega
      have e2 : (i - -1074).toNat = i.toNat + 1074 := by omega
      rw [e1, e2, Nat.pow_zero, Nat.div_one, Nat.pow_add, ← Nat.mul_assoc]
      exact Nat.mul_lt_mul_of_pos_right (Nat.lt_succ_self _) (Nat.two_pow_pos _)
    · have e1 : i.toNat = 0 := by omega
      have e2 : 1074 = (i - -1074).toNat + (-i).toNat := by omega
      rw [e1, Nat.pow_zero, Nat.mul_one]
      have hlt : m < (m / 2 ^ (-i).toNat + 1) * 2 ^ (-i).toNat := by
        have := Nat.lt_div_mul_add (a := m) (b := 2 ^ (-i).toNat) (Nat.two_pow_pos _)
        rw [Nat.add_mul, Nat.one_mul]; exact this
      have := Nat.mul_lt_mul_of_pos_right hlt (Nat.two_pow_pos (i - -1074).toNat)
      refine Nat.lt_of_lt_of_le this (Nat.le_of_eq ?_)
      rw [Nat.mul_assoc, ← Nat.pow_add, Nat.add_comm (-i).toNat, ← e2]
  · unfold fcut
    rw [h1, ← (cut_low .zero (sg X) (m <<< i.toNat) (-i).toNat).2]
    rfl
  · unfold toI
    rw [h1, ← (cut_low .zero (sg X) (m <<< i.toNat) (-i).toNat).2]
    rfl

/-- nothing added -/
theorem near_sum_neg {X Y : Nat} (hX : Fin64 X) (hY : Fin64 Y) (hn : svd X + svd Y < 0) : sg (fop .add .f64 X Y) = true := by
  obtain ⟨m, i, h1, h2, h3, _⟩ := hX.read
  obtain ⟨n, j, g1, g2, g3, _⟩ := hY.read
  have hf : floatBits .add .f64 X Y = some (double.write (.number (if signed (sg X) m (i - min i j).toNat + signed (sg Y) n (j - min i j).toNat = 0 then sg X && sg Y else signed (sg X) m (i - min i j).toNat + signed (sg Y) n (j - min i j).toNat < 0)
    (signed (sg X) m (i - min i j).toNat + signed (sg Y) n (j - min i j).toNat).natAbs (min i j))) := by
    show ((double.read X).sum (double.read Y)).map double.write = _
    rw [h1, g1]; rfl
  rw [fop_some hf]
  have e1 := signed_sv rfl h3 (base := min i j) (by omega) (by omega)
  have e2 := signed_sv rfl g3 (base := min i j) (by omega) (by omega)
  have hp : 0 < 2 ^ (min i j - -1074).toNat := Nat.two_pow_pos _
  have e3 : (signed (sg X) m (i - min i j).toNat + signed (sg Y) n (j - min i j).toNat) * (2 ^ (min i j - -1074).toNat : Nat) = svd X + svd Y := by
    rw [Int.add_mul, e1, e2]
  have hneg : signed (sg X) m (i - min i j).toNat + signed (sg Y) n (j - min i j).toNat < 0 := by
    rcases Int.lt_or_le (signed (sg X) m (i - min i j).toNat + signed (sg Y) n (j - min i j).toNat) 0 with g | g
    · exact g
    · have := Int.mul_nonneg g (show (0 : Int) ≤ (2 ^ (min i j - -1074).toNat : Nat) by omega)
      omega
  show ng double (double.nearest _ _ _) = true
  rw [(near_nearest _ _ _ _ 1 (by omega) (by
      have : (-1074 - min i j).toNat = 0 := by omega
      rw [this, Nat.pow_zero, Nat.mul_one])).2]
  rw [if_neg (by omega)]
  exact decide_eq_true hneg

theorem add_zero {W : Nat} (h : Fin64 W) (hl : W < 18446744073709551616) (hp : 0 < mv W) : fop .add .f64 W 0 = W := by
  have hn := near_add h zero_fin
  rw [zero_val, Int.add_zero, svd_abs] at hn
  unfold Fin64 at h
  obtain ⟨g1, g2⟩ := near_exact hn.1 (r0 := W % 9223372036854775808) (by omega) rfl
  refine word_ext g1 hl g2 ?_
  cases hs : sg W with
  | false => exact hn.2 (by rw [svd_of hs rfl]; simp; exact hp)
  | true => exact near_sum_neg h zero_fin (by rw [zero_val, svd_of hs rfl]; simp; exact hp)

/-- the whole part, by either way -/
theorem tz_eq {X : Nat} (h : Bd X 1126) : fop .add .f64 (fcut .zero X) 0 = fi (toI X) := by
  obtain ⟨c, hc, h1, h2, h3, h4⟩ := parts h
  rw [h3, h4]
  rcases Nat.eq_zero_or_pos c with g | g
  · subst g
    cases sg X <;> decide +kernel
  · have e : fi (signed (sg X) c 0) = double.nearest (sg X) c 0 := by
      rw [fi_near]
      have e1 : (signed (sg X) c 0).natAbs = c := by unfold signed; rw [Nat.shiftLeft_zero]; split <;> omega
      have e2 : decide (signed (sg X) c 0 < 0) = sg X := by
        unfold signed; rw [Nat.shiftLeft_zero]
        cases sg X
        · exact decide_eq_false (by simp)
        · exact decide_eq_true (by simp; omega)
      rw [e1, e2]
    obtain ⟨k1, k2, k3, k4⟩ := near_whole (sg X) hc
    rw [e]
    exact add_zero k2 k1 (by rw [k3]; exact Nat.mul_pos g (Nat.two_pow_pos _))

/-- what is behind it lies within 1 -/
theorem fr_bd {X : Nat} (h : Bd X 1126) : Bd (fop .sub .f64 X (fi (toI X))) 1074 := by
  obtain ⟨c, hc, h1, h2, h3, h4⟩ := parts h
  have hn : (toI X).natAbs = c := by rw [h4]; unfold signed; rw [Nat.shiftLeft_zero]; split <;> omega
  obtain ⟨k1, k2, k3, k4⟩ := near_whole (decide (toI X < 0)) (c := (toI X).natAbs) (by rw [hn]; exact hc)
  rw [← fi_near] at k1 k2 k3 k4
  refine (near_sub h.2.1 k2).1.bd (by omega) ?_
  rw [svd_of k4 k3, svd_of rfl rfl, hn, Nat.mul_one]
  rw [Nat.add_mul, Nat.one_mul] at h2
  have hd : c ≠ 0 → decide (toI X < 0) = sg X := by
    intro g
    rw [h4]; unfold signed; rw [Nat.shiftLeft_zero]
    cases sg X
    · exact decide_eq_false (by simp)
    · exact decide_eq_true (by simp; omega)
  have e0 : c = 0 → c * 2 ^ 1074 = 0 := by intro g; rw [g, Nat.zero_mul]
  clear k1 k2 k3 k4 h3 h4 hn h
  generalize mv X = M at *
  generalize toI X = T at *
  generalize sg X = s at *
  generalize hP : c * 2 ^ 1074 = P at *
  generalize (2 : Nat) ^ 1074 = A at *
  rcases Nat.eq_zero_or_pos c with g | g
  · have := e0 g
    subst this
    cases s <;> cases decide (T < 0) <;> simp <;> omega
  · rw [hd (by omega)]
    cases s <;> simp <;> omega
end Go.Fl
end

/-
  PLAIN LAWS: sines of turns. (No program here.)
-/
section
set_option exponentiation.threshold 5000
set_option linter.unusedVariables false
set_option linter.unusedSimpArgs false
namespace Go.Fl
open Go Ieee

/-- what is left of turns, from 0 on -/
def frac (X : Nat) : Nat := if flt .f64 (fop .sub .f64 X (fi (toI X))) 0 then fop .add .f64 (fop .sub .f64 X (fi (toI X))) c1 else fop .sub .f64 X (fi (toI X))
def serS (u : Nat) : Nat → Nat → Nat
  | 0, p => p
  | k + 1, p => serS u k (fop .sub .f64 c1 (fop .quo .f64 (fop .mul .f64 u p) (fi (2 * ((k + 1 : Nat) : Int) * (2 * ((k + 1 : Nat) : Int) + 1)))))
abbrev cHalf : Nat := 4602678819172646912
abbrev cQuarter : Nat := 4598175219545276416
abbrev cTurn : Nat := 4618760256179416344
def f1F (F : Nat) : Nat := if fge .f64 F cHalf then fop .sub .f64 F cHalf else F
def f2F (F : Nat) : Nat := if fgt .f64 (f1F F) cQuarter then fop .sub .f64 cHalf (f1F F) else f1F F
def sinZ (F : Nat) : Nat := fop .mul .f64 (f2F F) cTurn
def sinF (F : Nat) : Nat := fop .mul .f64 (sinZ F) (serS (fop .mul .f64 (sinZ F) (sinZ F)) 8 c1)
def sinW (X : Nat) : Nat := if fge .f64 (frac X) cHalf then fneg .f64 (sinF (frac X)) else sinF (frac X)

theorem frac_bd {X : Nat} (h : Bd X 1126) : Bd (frac X) 1075 := by
  unfold frac
  split
  · exact bd_add (fr_bd h) bd_c1 (by omega)
  · exact (fr_bd h).mono (by omega)
theorem bd_half : Bd cHalf 1074 := ⟨by decide, by unfold Fin64; decide, by decide +kernel⟩
theorem bd_turn : Bd cTurn 1077 := ⟨by decide, by unfold Fin64; decide, by decide +kernel⟩
theorem f1_bd {F : Nat} (h : Bd F 1075) : Bd (f1F F) 1076 := by
  unfold f1F
  split
  · exact bd_sub h (bd_half.mono (by omega)) (by omega)
  · exact h.mono (by omega)
theorem f2_bd {F : Nat} (h : Bd F 1075) : Bd (f2F F) 1077 := by
  unfold f2F
  split
  · exact bd_sub (bd_half.mono (by omega)) (f1_bd h) (by omega)
  · exact (f1_bd h).mono (by omega)
theorem bd_serS {u : Nat} (hu : Bd u 1086) : ∀ (k p q : Nat), k ≤ 8 → Bd p q → 1075 ≤ q → q + 12 * k ≤ 1300 → Bd (serS u k p) (q + 12 * k)
  | 0, p, q, _, hp, _, _ => hp
  | k + 1, p, q, hk, hp, hq, hs => by
    have hall : (List.range 8).all (fun k => decide ((2 : Nat) ^ 1076 ≤ mv (fi (2 * ((k + 1 : Nat) : Int) * (2 * ((k + 1 : Nat) : Int) + 1)))) && decide (fi (2 * ((k + 1 : Nat) : Int) * (2 * ((k + 1 : Nat) : Int) + 1)) % 9223372036854775808 < 9218868437227405312)) = true := by decide +kernel
    have h0 := List.all_eq_true.1 hall k (List.mem_range.2 (by omega))
    rw [Bool.and_eq_true, decide_eq_true_eq, decide_eq_true_eq] at h0
    have h1 := bd_mul (r := q + 12) hu hp (by omega) (by omega)
    have h2 := (bd_quo (r := q + 11) h1 h0.2 h0.1 (by omega) (by omega)).1
    have h3 := bd_sub (p := q + 11) (bd_c1.mono (by omega)) h2 (by omega)
    have := bd_serS hu k _ (q + 12) (by omega) h3 (by omega) (by omega)
    rw [show q + 12 * (k + 1) = q + 12 + 12 * k by omega]
    exact this
theorem fneg_bd {X p : Nat} (h : Bd X p) : Bd (fneg .f64 X) p := by
  have hi := fneg_is (is_bd h)
  have hs := neg64 h.1
  have h1 := h.1
  have h2 := h.2.1
  unfold Fin64 at h2
  have hf : fneg .f64 X = Op.negFloat .f64 X := by
    unfold fneg
    refine cn_of_not ?_
    rw [(isn_neg .f64 (by rw [w64]; exact h1)).1, isn64]
    exact decide_eq_false (by omega)
  rw [hf, hs]
  split
  · refine ⟨by omega, by unfold Fin64; omega, ?_⟩
    unfold mv
    rw [show (X - 9223372036854775808) % 9223372036854775808 = X % 9223372036854775808 by omega]
    exact h.2.2
  · refine ⟨by omega, by unfold Fin64; omega, ?_⟩
    unfold mv
    rw [show (X + 9223372036854775808) % 9223372036854775808 = X % 9223372036854775808 by omega]
    exact h.2.2
theorem sinF_bd {F : Nat} (h : Bd F 1075) : Bd (sinF F) 1190 := by
  have z : Bd (sinZ F) 1080 := bd_mul (f2_bd h) bd_turn (by omega) (by omega)
  have u := bd_mul (r := 1086) z z (by omega) (by omega)
  have s := bd_serS u 8 c1 1075 (by omega) (bd_c1.mono (by omega)) (by omega) (by omega)
  exact bd_mul z s (by omega) (by omega)
theorem sinW_bd {X : Nat} (h : Bd X 1126) : Bd (sinW X) 1190 := by
  unfold sinW
  split
  · exact fneg_bd (sinF_bd (frac_bd h))
  · exact sinF_bd (frac_bd h)

/-- numbers of turns that tell something -/
def Small (X : Nat) : Prop := Bd X 1126 ∧ mv X < 2 ^ 1126
theorem c52_val : svd 4841369599423283200 = 2 ^ 1126 := by decide +kernel
theorem c52_fin : Fin64 4841369599423283200 := by unfold Fin64; decide
theorem n52_val : svd 14064741636278059008 = -(2 ^ 1126) := by decide +kernel
theorem n52_fin : Fin64 14064741636278059008 := by unfold Fin64; decide
theorem p52 : ((2 : Int) ^ 1126) = ((2 ^ 1126 : Nat) : Int) := by norm_cast

theorem sub_self {X : Nat} (h : Fin64 X) : fop .sub .f64 X X = 0 ∨ fop .sub .f64 X X = 9223372036854775808 := by
  have hn := (near_sub h h).1
  rw [Int.sub_self] at hn
  obtain ⟨g1, g2⟩ := near_exact hn (r0 := 0) (by omega) (by decide +kernel)
  omega
theorem sub_self_ne {X : Nat} (h : Fin64 X) : fne .f64 (fop .sub .f64 X X) 0 = false := by
  rcases sub_self h with e | e <;> rw [e] <;> decide +kernel

theorem Small.ge {X : Nat} (h : Small X) : fge .f64 X 4841369599423283200 = false := by
  rw [fge_fin h.1.2.1 c52_fin, decide_eq_false_iff_not, c52_val, p52]
  have h1 := svd_abs X
  have := h.2
  generalize (2 : Nat) ^ 1126 = A at *
  omega
theorem Small.le {X : Nat} (h : Small X) : fle .f64 X 14064741636278059008 = false := by
  rw [Bool.eq_false_iff]; intro g
  have := ((fle_iff _ _ _).1 g).2.2
  rw [show FloatKind.f64.format = double from rfl, svd_eq, svd_eq, n52_val, p52] at this
  have h1 := svd_abs X
  have := h.2
  generalize (2 : Nat) ^ 1126 = A at *
  omega
theorem fabs_eq (X : Nat) : fabs X = X % 9223372036854775808 := by unfold fabs; rfl
theorem mv_fabs (X : Nat) : mv (fabs X) = mv X ∧ sg (fabs X) = false := by
  rw [fabs_eq]
  refine ⟨by unfold mv; rw [Nat.mod_mod], ?_⟩
  rw [sg_eq, Nat.div_eq_of_lt (Nat.mod_lt _ (by decide))]; rfl
theorem fin_fabs {X : Nat} (h : Fin64 X) : Fin64 (fabs X) := by unfold Fin64 at *; rw [fabs_eq, Nat.mod_mod]; exact h
theorem abs_ge {X : Nat} (h : Fin64 X) : fge .f64 (fabs X) 4841369599423283200 = decide (2 ^ 1126 ≤ mv X) := by
  rw [fge_fin (fin_fabs h) c52_fin, c52_val, p52, svd_pos (mv_fabs X).2, (mv_fabs X).1]
  exact decide_eq_decide.2 Int.ofNat_le
theorem large_ge {X : Nat} (h : Fin64 X) (hl : 2 ^ 1126 ≤ mv X) (hs : sg X = false) : fge .f64 X 4841369599423283200 = true := by
  rw [fge_fin h c52_fin, c52_val, p52, svd_pos hs]
  exact decide_eq_true (Int.ofNat_le.2 hl)
theorem large_lt {X : Nat} (h : Fin64 X) (hl : 2 ^ 1126 ≤ mv X) (hs : sg X = true) : fge .f64 X 4841369599423283200 = false ∧ fle .f64 X 14064741636278059008 = true := by
  have e : svd X = -(mv X : Int) := by rw [svd_of hs rfl]; rfl
  constructor
  · rw [fge_fin h c52_fin, c52_val, p52, e, decide_eq_false_iff_not]
    have : (0 : Nat) < 2 ^ 1126 := Nat.two_pow_pos _
    generalize (2 : Nat) ^ 1126 = A at *
    omega
  · rw [fle_iff, show FloatKind.f64.format = double from rfl, svd_eq, svd_eq, n52_val, p52, e]
    refine ⟨not_nan h, not_nan n52_fin, ?_⟩
    generalize (2 : Nat) ^ 1126 = A at *
    omega

/-- finite 32-bit numbers; the others -/
theorem fin32_bd {X : Nat} (hX : Can .f32 X) (h : fin32B X = true) : Bd (wid X) 1202 := by
  unfold fin32B at h
  rw [decide_eq_true_eq] at h
  have hn : isn .f32 X = false := by rw [isn32, decide_eq_false_iff_not]; omega
  obtain ⟨r0, g1, g2, g3, g4⟩ := wid_cases (can32_lt hX) hn
  obtain ⟨k1, k2⟩ := g3 h
  have hr : wid X % 9223372036854775808 = r0 := by rw [g2]; exact (word64_lt g1).2.1
  have hlt : wid X < 18446744073709551616 := by rw [g2]; exact (word64_lt g1).1
  refine ⟨hlt, by unfold Fin64; omega, ?_⟩
  have hmv : mv (wid X) = rv single (X % 2147483648) * 2 ^ 925 := by unfold mv; rw [hr, k2]
  rw [hmv]
  have h5 : rv single (X % 2147483648) ≤ rv single 2139095039 := rv_le single (by omega)
  have h6 : rv single 2139095039 ≤ 2 ^ 277 := by decide +kernel
  have h7 := Nat.mul_le_mul_right (2 ^ 925) (Nat.le_trans h5 h6)
  rw [← Nat.pow_add] at h7
  exact h7
theorem nfin32 {X : Nat} (hX : Can .f32 X) (h : fin32B X = false) : X = qn .f32 ∨ X = 2139095040 ∨ X = 4286578688 := by
  unfold fin32B at h
  rw [decide_eq_false_iff_not] at h
  by_cases hn : isn .f32 X = true
  · exact .inl (hX.nan hn)
  · have hlt := can32_lt hX
    rw [isn32, decide_eq_true_eq] at hn
    omega

/-- the sine of a 32-bit number of turns -/
def sinN (X : Nat) : Nat := if fin32B X then if 2 ^ 1126 ≤ mv (wid X) then 0 else nar (sinW (wid X)) else qn .f32
end Go.Fl
end

/-
  PLAIN LAWS: the angle of a point. (No program here.)
-/
section
set_option exponentiation.threshold 5000
set_option linter.unusedVariables false
set_option linter.unusedSimpArgs false
namespace Go.Fl
open Go Ieee

def stepT (t : Nat) : Nat := fop .quo .f64 t (fop .add .f64 c1 (fsqrt (fop .add .f64 c1 (fop .mul .f64 t t))))
def stp : Nat → Nat → Nat
  | 0, t => t
  | j + 1, t => stp j (stepT t)
def serA (u : Nat) : Nat → Nat → Nat
  | 0, p => p
  | j + 1, p => serA u j (fop .sub .f64 (fop .quo .f64 c1 (fi (2 * ((j + 1 : Nat) : Int) - 1))) (fop .mul .f64 u p))
abbrev c8 : Nat := 4620693217682128896
def over (Y X : Nat) : Bool := fgt .f64 (fabs Y) (fabs X)
def angT (Y X : Nat) : Nat := if over Y X then fop .quo .f64 (fabs X) (fabs Y) else fop .quo .f64 (fabs Y) (fabs X)
def ang0 (t : Nat) : Nat := fop .quo .f64 (fop .mul .f64 c8 (fop .mul .f64 t (serA (fop .mul .f64 t t) 8 0))) cTurn
def ang1 (Y X : Nat) : Nat := if over Y X then fop .sub .f64 cQuarter (ang0 (stp 3 (angT Y X))) else ang0 (stp 3 (angT Y X))
def ang2 (Y X : Nat) : Nat := if flt .f64 X 0 then fop .sub .f64 cHalf (ang1 Y X) else ang1 Y X
def angW (Y X : Nat) : Nat := if flt .f64 Y 0 then fneg .f64 (ang2 Y X) else ang2 Y X

theorem stepT_bd {t p : Nat} (h : Bd t p) (hp : 1075 ≤ p) (hp' : p ≤ 1080) : Bd (stepT t) (p + 1) := by
  have hm := bd_mul (r := 2 * p - 1074) h h (by omega) (by omega)
  have hs : sg (fop .mul .f64 t t) = false := by rw [(near_mul h.2.1 h.2.1).2]; cases sg t <;> rfl
  have ha := bd_add (p := 2 * p - 1074) (bd_c1.mono (by omega)) hm (by omega)
  have hn := near_add bd_c1.2.1 hm.2.1
  have hpos : 0 < svd c1 + svd (fop .mul .f64 t t) := by
    rw [svd_pos hs, one_val]
    have : (0 : Int) < 2 ^ 1074 := by norm_cast
    omega
  have hq := bd_sqrt (r := p + 2) ha (hn.2 hpos) (by omega) (by omega)
  have hd := bd_add (p := p + 2) (bd_c1.mono (by omega)) hq.1 (by omega)
  have hlo : 2 ^ 1074 ≤ mv (fop .add .f64 c1 (fsqrt (fop .add .f64 c1 (fop .mul .f64 t t)))) := by
    refine (near_add bd_c1.2.1 hq.1.2.1).1.lo (by omega) ?_
    rw [svd_pos hq.2, one_val, Nat.mul_one]
    have e7 : ((2 : Int) ^ 1074) = ((2 ^ 1074 : Nat) : Int) := by norm_cast
    rw [e7]
    generalize (2 : Nat) ^ 1074 = a at *
    omega
  exact (bd_quo h hd.2.1 hlo (by omega) (by omega)).1
theorem stp_bd : ∀ (j t p : Nat), Bd t p → 1075 ≤ p → p + j ≤ 1080 → Bd (stp j t) (p + j)
  | 0, t, p, h, _, _ => h
  | j + 1, t, p, h, hp, hq => by
    have := stp_bd j (stepT t) (p + 1) (stepT_bd h hp (by omega)) (by omega) (by omega)
    rw [show p + (j + 1) = p + 1 + j by omega]
    exact this
theorem bd_serA {u : Nat} (hu : Bd u 1082) : ∀ (j p q : Nat), j ≤ 8 → Bd p q → 1075 ≤ q → q + 9 * j ≤ 1300 → Bd (serA u j p) (q + 9 * j)
  | 0, p, q, _, hp, _, _ => hp
  | j + 1, p, q, hj, hp, hq, hs => by
    have hall : (List.range 8).all (fun j => decide ((2 : Nat) ^ 1074 ≤ mv (fi (2 * ((j + 1 : Nat) : Int) - 1)))) = true := by decide +kernel
    have e1 := of_decide_eq_true (List.all_eq_true.1 hall j (List.mem_range.2 (by omega)))
    have e2 : Fin64 (fi (2 * ((j + 1 : Nat) : Int) - 1)) := (fi_bd (by omega) (by omega)).2.1
    have h1 := (bd_quo (r := 1075) bd_c1 e2 e1 (by omega) (by omega)).1
    have h2 := bd_mul (r := q + 8) hu hp (by omega) (by omega)
    have h3 := bd_sub (h1.mono (q := q + 8) (by omega)) h2 (by omega)
    have := bd_serA hu j _ (q + 9) (by omega) h3 (by omega) (by omega)
    rw [show q + 9 * (j + 1) = q + 9 + 9 * j by omega]
    exact this
theorem turn_lo : 2 ^ 1076 ≤ mv cTurn := by decide +kernel
theorem ang0_bd {t : Nat} (h : Bd t 1078) : Bd (ang0 t) 1153 := by
  have u := bd_mul (r := 1082) h h (by omega) (by omega)
  have z : Bd 0 1075 := ⟨by omega, zero_fin, by decide +kernel⟩
  have s := bd_serA u 8 0 1075 (by omega) z (by omega) (by omega)
  have m := bd_mul (r := 1151) h s (by omega) (by omega)
  have e8 : Bd c8 1077 := ⟨by decide, by unfold Fin64; decide, by decide +kernel⟩
  have m8 := bd_mul (r := 1154) e8 m (by omega) (by omega)
  exact (bd_quo m8 bd_turn.2.1 turn_lo (by omega) (by omega)).1
theorem angT_bd {Y X : Nat} (hY : Fin64 Y) (hX : Fin64 X) (hz : 0 < mv Y ∨ 0 < mv X) : Bd (angT Y X) 1075 := by
  have fy := fin_fabs hY
  have fx := fin_fabs hX
  have o : over Y X = decide (mv X < mv Y) := by
    unfold over
    rw [fgt_fin fy fx, svd_pos (mv_fabs X).2, svd_pos (mv_fabs Y).2, (mv_fabs X).1, (mv_fabs Y).1]
    exact decide_eq_decide.2 Int.ofNat_lt
  unfold angT
  rw [o]
  by_cases g : mv X < mv Y
  · rw [if_pos (decide_eq_true g)]
    refine (bd_quo' fx fy (by rw [(mv_fabs Y).1]; omega) ?_ (by omega)).1
    rw [(mv_fabs Y).1, (mv_fabs X).1, Nat.mul_comm]
    exact Nat.mul_le_mul_left _ (Nat.le_of_lt g)
  · rw [if_neg (by rw [decide_eq_false g]; decide)]
    refine (bd_quo' fy fx (by rw [(mv_fabs X).1]; omega) ?_ (by omega)).1
    rw [(mv_fabs Y).1, (mv_fabs X).1, Nat.mul_comm]
    exact Nat.mul_le_mul_left _ (by omega)
theorem bd_quarter : Bd cQuarter 1074 := ⟨by decide, by unfold Fin64; decide, by decide +kernel⟩
theorem angW_bd {Y X : Nat} (hY : Fin64 Y) (hX : Fin64 X) (hz : 0 < mv Y ∨ 0 < mv X) : Bd (angW Y X) 1155 := by
  have t := stp_bd 3 _ 1075 (angT_bd hY hX hz) (by omega) (by omega)
  have a0 := ang0_bd t
  have a1 : Bd (ang1 Y X) 1154 := by
    unfold ang1
    split
    · exact bd_sub (bd_quarter.mono (by omega)) a0 (by omega)
    · exact a0.mono (by omega)
  have a2 : Bd (ang2 Y X) 1155 := by
    unfold ang2
    split
    · exact bd_sub (bd_half.mono (by omega)) a1 (by omega)
    · exact a1.mono (by omega)
  unfold angW
  split
  · exact fneg_bd a2
  · exact a2

/-- nothing, in either width -/
theorem feq0_64 {X : Nat} (h : Fin64 X) : feq .f64 X 0 = decide (mv X = 0) := by
  rw [Bool.eq_iff_iff, decide_eq_true_eq, feq_iff, show FloatKind.f64.format = double from rfl, svd_eq, svd_eq, zero_val]
  have := svd_abs X
  simp [not_nan h, not_nan zero_fin]
  omega
theorem feq0_32 {X : Nat} (hX : Can .f32 X) (h : fin32B X = true) : feq .f32 X 0 = decide (mv (wid X) = 0) := by
  unfold fin32B at h
  rw [decide_eq_true_eq] at h
  have hn : isn .f32 X = false := by rw [isn32, decide_eq_false_iff_not]; omega
  obtain ⟨r0, g1, g2, g3, g4⟩ := wid_cases (can32_lt hX) hn
  obtain ⟨k1, k2⟩ := g3 h
  have hr : wid X % 9223372036854775808 = r0 := by rw [g2]; exact (word64_lt g1).2.1
  have hmv : mv (wid X) = rv single (X % 2147483648) * 2 ^ 925 := by unfold mv; rw [hr, k2]
  have e0 : sv FloatKind.f32.format 0 = 0 := by decide +kernel
  have hp : (0 : Nat) < 2 ^ 925 := Nat.two_pow_pos _
  rw [Bool.eq_iff_iff, decide_eq_true_eq, feq_iff, e0, hmv, Nat.mul_eq_zero]
  unfold sv
  rw [rg32]
  show _ ∧ _ ∧ (if ng FloatKind.f32.format X = true then -((rv single (X % 2147483648) : Nat) : Int) else ((rv single (X % 2147483648) : Nat) : Int)) = 0 ↔ _
  constructor
  · rintro ⟨_, _, g⟩
    split at g <;> omega
  · intro g
    refine ⟨hn, isn_nil _, ?_⟩
    rcases g with g | g
    · rw [g]; simp
    · omega
/-- the angle of a point of 32-bit numbers -/
def angN (Y X : Nat) : Nat := if fin32B Y && fin32B X then if mv (wid Y) = 0 ∧ mv (wid X) = 0 then 0 else nar (angW (wid Y) (wid X)) else qn .f32
end Go.Fl
end
