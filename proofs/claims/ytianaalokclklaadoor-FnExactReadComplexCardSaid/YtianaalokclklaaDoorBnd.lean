/-
  BOUNDS: what the operations on 64-bit words give lies near the exact result; powers of two bound it. (No program here.)
-/
import Derived.Test.YtianaalokclklaaDoorLaw1
set_option exponentiation.threshold 5000
set_option linter.unusedVariables false
set_option linter.unusedSimpArgs false
namespace Go.Fl
open Go Ieee

/-- a finite 64-bit word -/
def Fin64 (X : Nat) : Prop := X % 9223372036854775808 < 9218868437227405312
/-- its magnitude, in units of 2 to the power of -1074 -/
def mv (X : Nat) : Nat := rv double (X % 9223372036854775808)
/-- its sign -/
def sg (X : Nat) : Bool := ng double X

theorem rgd (X : Nat) : rg double X = X % 9223372036854775808 := by unfold rg; rw [sw64]

theorem Fin64.read {X : Nat} (h : Fin64 X) : ∃ m e, double.read X = .number (sg X) m e ∧ -1074 ≤ e ∧ m * 2 ^ (e - -1074).toNat = mv X ∧ m < 9007199254740992 := by
  obtain ⟨m, e, h1, h2, h3, h4⟩ := read_fin' double (X := X) (by rw [rgd, inf64]; exact h)
  rw [lp64] at h2 h3
  rw [rgd] at h3
  rw [bin64] at h4
  exact ⟨m, e, h1, h2, h3, by omega⟩

/-- 'W' is the word, of whatever sign, to which 'num / den' units are rounded -/
def Near (W num den : Nat) : Prop := W < 18446744073709551616 ∧ W % 9223372036854775808 ≤ 9218868437227405312 ∧ ∀ r0, r0 ≤ 9218868437227405312 →
  (num ≤ rv double r0 * den → W % 9223372036854775808 ≤ r0) ∧ (rv double r0 * den ≤ num → r0 ≤ W % 9223372036854775808)

theorem near_nearest (s : Bool) (mag : Nat) (place : Int) (num den : Nat) (hd : 0 < den)
    (h : mag * 2 ^ (place - -1074).toNat * den = num * 2 ^ (-1074 - place).toNat) : Near (double.nearest s mag place) num den ∧ ng double (double.nearest s mag place) = s := by
  have key : ∃ r, r ≤ 9218868437227405312 ∧ double.nearest s mag place = double.word s r ∧ ∀ r0, r0 ≤ 9218868437227405312 →
      (mag * 2 ^ (place - -1074).toNat ≤ rv double r0 * 2 ^ (-1074 - place).toNat → r ≤ r0) ∧ (rv double r0 * 2 ^ (-1074 - place).toNat ≤ mag * 2 ^ (place - -1074).toNat → r0 ≤ r) := by
    by_cases hm : mag = 0
    · subst hm
      refine ⟨0, Nat.zero_le _, by unfold Format.nearest; simp, fun r0 _ => ⟨fun _ => Nat.zero_le _, fun h => ?_⟩⟩
      rw [Nat.zero_mul] at h
      have hp : 0 < 2 ^ (-1074 - place).toNat := Nat.two_pow_pos _
      have h1 : rv double r0 = 0 := by
        rcases Nat.mul_eq_zero.1 (Nat.le_zero.1 h) with g | g
        · exact g
        · omega
      rcases Nat.eq_zero_or_pos r0 with g | g
      · omega
      · have := rv_pos double g; omega
    · obtain ⟨r, h1, h2, h3⟩ := nearest_between double s mag place (by omega)
      rw [inf64] at h1 h3
      rw [lp64] at h3
      exact ⟨r, h1, h2, h3⟩
  obtain ⟨r, h1, h2, h3⟩ := key
  obtain ⟨g1, g2, g3⟩ := word64_lt (neg := s) h1
  rw [h2]
  refine ⟨⟨g1, by rw [g2]; exact h1, fun r0 hr0 => ?_⟩, ?_⟩
  · rw [g2]
    obtain ⟨a, b⟩ := h3 r0 hr0
    have hp : 0 < 2 ^ (-1074 - place).toNat := Nat.two_pow_pos _
    constructor
    · intro hle
      apply a
      have t : mag * 2 ^ (place - -1074).toNat * den ≤ rv double r0 * 2 ^ (-1074 - place).toNat * den := by
        rw [h]
        have := Nat.mul_le_mul_right (2 ^ (-1074 - place).toNat) hle
        rw [Nat.mul_assoc, Nat.mul_comm den, ← Nat.mul_assoc] at this
        exact this
      exact Nat.le_of_mul_le_mul_right t hd
    · intro hle
      apply b
      have t : rv double r0 * 2 ^ (-1074 - place).toNat * den ≤ mag * 2 ^ (place - -1074).toNat * den := by
        rw [h]
        have := Nat.mul_le_mul_right (2 ^ (-1074 - place).toNat) hle
        rw [Nat.mul_assoc, Nat.mul_comm den, ← Nat.mul_assoc] at this
        exact this
      exact Nat.le_of_mul_le_mul_right t hd
  · have e : ng double (double.word s r) = (double.word s r / 9223372036854775808 % 2 == 1) := by unfold ng; rw [sw64]
    rw [e, g3]
    cases s <;> rfl

/-- signed values -/
def svd (X : Nat) : Int := if sg X then -(mv X : Int) else (mv X : Int)

theorem signed_sv {s : Bool} {m : Nat} {i : Int} {X : Nat} (hs : s = sg X) (hm : m * 2 ^ (i - -1074).toNat = mv X) {base : Int} (hb : -1074 ≤ base) (hi : base ≤ i) :
    signed s m (i - base).toNat * (2 ^ (base - -1074).toNat : Nat) = svd X := by
  rw [signed_mul]
  have : (i - base).toNat + (base - -1074).toNat = (i - -1074).toNat := by omega
  rw [this]
  unfold signed svd
  rw [Nat.shiftLeft_eq, hm, hs]

theorem fop_some {op : BinOp} {k : FloatKind} {X Y r : Nat} (h : floatBits op k X Y = some r) : fop op k X Y = r := by
  unfold fop; rw [h]; rfl

theorem near_sum {X Y : Nat} {d : Datum} (hX : Fin64 X) {n : Nat} {j : Int} {t : Bool} (hj : -1074 ≤ j) {vy : Int}
    (hy : ∀ base : Int, -1074 ≤ base → base ≤ j → signed t n (j - base).toNat * (2 ^ (base - -1074).toNat : Nat) = vy) (hd : (double.read X).sum (.number t n j) = some d) :
    Near (double.write d) (svd X + vy).natAbs 1 ∧ (0 < svd X + vy → ng double (double.write d) = false) := by
  obtain ⟨m, i, h1, h2, h3, _⟩ := hX.read
  rw [h1] at hd
  simp only [Datum.sum, Option.some.injEq] at hd
  subst hd
  have hp : 0 < 2 ^ (min i j - -1074).toNat := Nat.two_pow_pos _
  have e1 := signed_sv rfl h3 (base := min i j) (by omega) (by omega)
  have e2 := hy (min i j) (by omega) (by omega)
  have e3 : (signed (sg X) m (i - min i j).toNat + signed t n (j - min i j).toNat) * (2 ^ (min i j - -1074).toNat : Nat) = svd X + vy := by
    rw [Int.add_mul, e1, e2]
  obtain ⟨g1, g2⟩ := near_nearest (if signed (sg X) m (i - min i j).toNat + signed t n (j - min i j).toNat = 0 then sg X && t else signed (sg X) m (i - min i j).toNat + signed t n (j - min i j).toNat < 0)
    (signed (sg X) m (i - min i j).toNat + signed t n (j - min i j).toNat).natAbs (min i j) (svd X + vy).natAbs 1 (by omega) (by
      have : (-1074 - min i j).toNat = 0 := by omega
      rw [this, Nat.pow_zero, Nat.mul_one, Nat.mul_one, ← e3, Int.natAbs_mul]
      rfl)
  refine ⟨g1, fun hpos => ?_⟩
  show ng double (double.nearest _ _ _) = false
  rw [g2]
  rw [← e3] at hpos
  have hpos' : 0 < signed (sg X) m (i - min i j).toNat + signed t n (j - min i j).toNat := by
    rcases Int.lt_or_le 0 (signed (sg X) m (i - min i j).toNat + signed t n (j - min i j).toNat) with g | g
    · exact g
    · have := Int.mul_le_mul_of_nonneg_right g (show (0 : Int) ≤ (2 ^ (min i j - -1074).toNat : Nat) by omega)
      omega
  rw [if_neg (by omega)]
  exact decide_eq_false (by omega)

theorem near_add {X Y : Nat} (hX : Fin64 X) (hY : Fin64 Y) : Near (fop .add .f64 X Y) (svd X + svd Y).natAbs 1 ∧ (0 < svd X + svd Y → sg (fop .add .f64 X Y) = false) := by
  obtain ⟨n, j, g1, g2, g3, _⟩ := hY.read
  cases hd : (double.read X).sum (double.read Y) with
  | none =>
    obtain ⟨m, i, h1, _⟩ := hX.read
    rw [h1, g1] at hd; simp [Datum.sum] at hd
  | some d =>
    have hf : floatBits .add .f64 X Y = some (double.write d) := by
      show ((double.read X).sum (double.read Y)).map double.write = _
      rw [hd]; rfl
    rw [fop_some hf]
    rw [g1] at hd
    exact near_sum hX (Y := Y) g2 (fun base hb hj => signed_sv rfl g3 hb hj) hd

theorem near_sub {X Y : Nat} (hX : Fin64 X) (hY : Fin64 Y) : Near (fop .sub .f64 X Y) (svd X - svd Y).natAbs 1 ∧ (0 < svd X - svd Y → sg (fop .sub .f64 X Y) = false) := by
  obtain ⟨n, j, g1, g2, g3, _⟩ := hY.read
  cases hd : (double.read X).sum (double.read Y).opposite with
  | none =>
    obtain ⟨m, i, h1, _⟩ := hX.read
    rw [h1, g1] at hd; simp [Datum.sum, Datum.opposite] at hd
  | some d =>
    have hf : floatBits .sub .f64 X Y = some (double.write d) := by
      show ((double.read X).sum (double.read Y).opposite).map double.write = _
      rw [hd]; rfl
    rw [fop_some hf]
    rw [g1] at hd
    have := near_sum hX (Y := Y) (vy := -svd Y) g2 (fun base hb hj => ?_) hd
    · rw [← Int.sub_eq_add_neg] at this; exact this
    · have e := signed_sv (X := Y) rfl g3 hb hj
      rw [← e, ← Int.neg_mul]
      congr 1
      unfold signed
      cases sg Y <;> simp

theorem near_mul {X Y : Nat} (hX : Fin64 X) (hY : Fin64 Y) : Near (fop .mul .f64 X Y) (mv X * mv Y) (2 ^ 1074) ∧ sg (fop .mul .f64 X Y) = (sg X ^^ sg Y) := by
  obtain ⟨m, i, h1, h2, h3, _⟩ := hX.read
  obtain ⟨n, j, g1, g2, g3, _⟩ := hY.read
  have hf : floatBits .mul .f64 X Y = some (double.nearest (sg X ^^ sg Y) (m * n) (i + j)) := by
    show ((double.read X).product (double.read Y)).map double.write = _
    rw [h1, g1]; rfl
  rw [fop_some hf]
  refine near_nearest _ _ _ _ _ (Nat.two_pow_pos _) ?_
  rw [← h3, ← g3]
  obtain ⟨a, ha⟩ : ∃ a : Nat, (i - -1074).toNat = a := ⟨_, rfl⟩
  obtain ⟨b, hb⟩ : ∃ b : Nat, (j - -1074).toNat = b := ⟨_, rfl⟩
  obtain ⟨c, hc⟩ : ∃ c : Nat, (i + j - -1074).toNat = c := ⟨_, rfl⟩
  obtain ⟨d, hd⟩ : ∃ d : Nat, (-1074 - (i + j)).toNat = d := ⟨_, rfl⟩
  rw [ha, hb, hc, hd]
  have hs : c + 1074 = a + b + d := by omega
  calc m * n * 2 ^ c * 2 ^ 1074 = m * n * 2 ^ (c + 1074) := by rw [Nat.pow_add]; ac_rfl
    _ = m * n * 2 ^ (a + b + d) := by rw [hs]
    _ = m * 2 ^ a * (n * 2 ^ b) * 2 ^ d := by rw [Nat.pow_add, Nat.pow_add]; ac_rfl

/-! ### powers of two -/
/-- a finite word whose magnitude is at most 2 to the power of 'p', in units -/
def Bd (X p : Nat) : Prop := X < 18446744073709551616 ∧ Fin64 X ∧ mv X ≤ 2 ^ p

theorem pw_exists {p : Nat} (hp : p ≤ 2044) : ∃ r0, rv double r0 = 2 ^ p ∧ r0 < 9218868437227405312 := by
  obtain ⟨r0, h1, h2⟩ := exists_rung double p 1 (by rw [bin64]; decide)
  have g : r0 < (p + 2) * 4503599627370496 := bin64 ▸ h2
  exact ⟨r0, by rw [h1, Nat.one_mul], Nat.lt_of_lt_of_le g (Nat.le_trans (Nat.mul_le_mul_right _ (show p + 2 ≤ 2046 by omega)) (by decide))⟩

theorem Near.bd {W num den p : Nat} (h : Near W num den) (hp : p ≤ 2044) (hle : num ≤ 2 ^ p * den) : Bd W p := by
  obtain ⟨r0, h1, h2⟩ := pw_exists hp
  obtain ⟨g1, g2, g3⟩ := h
  have := (g3 r0 (by omega)).1 (by rw [h1]; exact hle)
  refine ⟨g1, by unfold Fin64; omega, ?_⟩
  unfold mv
  rw [← h1]
  exact rv_le double this

theorem Near.lo {W num den p : Nat} (h : Near W num den) (hp : p ≤ 2044) (hge : 2 ^ p * den ≤ num) : 2 ^ p ≤ mv W := by
  obtain ⟨r0, h1, h2⟩ := pw_exists hp
  obtain ⟨g1, g2, g3⟩ := h
  have := (g3 r0 (by omega)).2 (by rw [h1]; exact hge)
  unfold mv
  rw [← h1]
  exact rv_le double this

theorem Bd.mono {X p q : Nat} (h : Bd X p) (hpq : p ≤ q) : Bd X q := ⟨h.1, h.2.1, Nat.le_trans h.2.2 (two_pow_le hpq)⟩

theorem svd_abs (X : Nat) : (svd X).natAbs = mv X := by unfold svd; split <;> omega

theorem bd_add {X Y p : Nat} (hX : Bd X p) (hY : Bd Y p) (hp : p + 1 ≤ 2044) : Bd (fop .add .f64 X Y) (p + 1) := by
  refine (near_add hX.2.1 hY.2.1).1.bd hp ?_
  have h1 := hX.2.2
  have h2 := hY.2.2
  have h3 := svd_abs X
  have h4 := svd_abs Y
  rw [Nat.pow_succ]
  omega

theorem bd_sub {X Y p : Nat} (hX : Bd X p) (hY : Bd Y p) (hp : p + 1 ≤ 2044) : Bd (fop .sub .f64 X Y) (p + 1) := by
  refine (near_sub hX.2.1 hY.2.1).1.bd hp ?_
  have h1 := hX.2.2
  have h2 := hY.2.2
  have h3 := svd_abs X
  have h4 := svd_abs Y
  rw [Nat.pow_succ]
  omega

theorem bd_mul {X Y p q r : Nat} (hX : Bd X p) (hY : Bd Y q) (h : p + q ≤ r + 1074) (hr : r ≤ 2044) : Bd (fop .mul .f64 X Y) r := by
  refine (near_mul hX.2.1 hY.2.1).1.bd hr ?_
  rw [← Nat.pow_add]
  refine Nat.le_trans (Nat.mul_le_mul hX.2.2 hY.2.2) ?_
  rw [← Nat.pow_add]
  exact two_pow_le h

theorem bd_quo' {X Y r : Nat} (hX : Fin64 X) (hY : Fin64 Y) (hq : 0 < mv Y) (h : mv X * 2 ^ 1075 ≤ 2 ^ r * mv Y) (hr : r ≤ 2044) :
    Bd (fop .quo .f64 X Y) r ∧ sg (fop .quo .f64 X Y) = (sg X ^^ sg Y) := by
  obtain ⟨m, i, h1, h2, h3, _⟩ := hX.read
  obtain ⟨n, j, g1, g2, g3, _⟩ := hY.read
  have hn : n ≠ 0 := by
    rintro rfl
    rw [Nat.zero_mul] at g3
    omega
  have hn0 : 0 < n := by omega
  obtain ⟨more, hmore⟩ : ∃ more, more = 54 + n.log2 - m.log2 := ⟨_, rfl⟩
  obtain ⟨V, hV⟩ : ∃ V, V = 2 * ((m <<< more) / n) + ((m <<< more) % n != 0).toNat := ⟨_, rfl⟩
  have hf : floatBits .quo .f64 X Y = some (double.nearest (sg X ^^ sg Y) V (i - j - more - 1)) := by
    show ((double.read X).quotient 54 (double.read Y)).map double.write = _
    rw [h1, g1]
    simp only [Datum.quotient, hn, if_false, Option.map_some, Format.write, ← hmore, ← hV]
  rw [fop_some hf]
  have hD : m <<< more = m * 2 ^ more := Nat.shiftLeft_eq _ _
  -- V n is at most four times the dividend
  have hVn : V * n ≤ 4 * (m * 2 ^ more) := by
    rcases Nat.eq_zero_or_pos m with hm | hm
    · have : V = 0 := by rw [hV, hD, hm]; simp
      rw [this]; omega
    · have hge : n ≤ m * 2 ^ more := by
        have a1 : n < 2 ^ (n.log2 + 1) := Nat.lt_log2_self
        have a2 : 2 ^ m.log2 ≤ m := Nat.log2_self_le (by omega)
        have a3 : 2 ^ (m.log2 + more) ≤ m * 2 ^ more := by rw [Nat.pow_add]; exact Nat.mul_le_mul_right _ a2
        have a4 : 2 ^ (n.log2 + 1) ≤ 2 ^ (m.log2 + more) := two_pow_le (by omega)
        omega
      have hdm := Nat.div_mul_le_self (m * 2 ^ more) n
      have hb : ((m * 2 ^ more) % n != 0).toNat ≤ 1 := Bool.toNat_le _
      rw [hD] at hV
      have e : V * n = 2 * ((m * 2 ^ more) / n * n) + ((m * 2 ^ more) % n != 0).toNat * n := by rw [hV, Nat.add_mul, Nat.mul_assoc]
      have hb2 : ((m * 2 ^ more) % n != 0).toNat * n ≤ 1 * n := Nat.mul_le_mul_right _ hb
      omega
  obtain ⟨pl, hpl⟩ : ∃ pl : Int, pl = i - j - more - 1 := ⟨_, rfl⟩
  rw [← hpl]
  obtain ⟨a, ha⟩ : ∃ a : Nat, (pl - -1074).toNat = a := ⟨_, rfl⟩
  obtain ⟨b, hb⟩ : ∃ b : Nat, (-1074 - pl).toNat = b := ⟨_, rfl⟩
  obtain ⟨I, hI⟩ : ∃ I : Nat, (i - -1074).toNat = I := ⟨_, rfl⟩
  obtain ⟨J, hJ⟩ : ∃ J : Nat, (j - -1074).toNat = J := ⟨_, rfl⟩
  have hsum : more + J + a = b + I + 1073 := by omega
  rw [hI] at h3
  rw [hJ] at g3
  obtain ⟨nr, ns⟩ := near_nearest (sg X ^^ sg Y) V pl (V * 2 ^ a) (2 ^ b) (Nat.two_pow_pos _) (by rw [ha, hb])
  refine ⟨nr.bd hr ?_, ns⟩
  have c1 : V * 2 ^ a * (mv Y * 2 ^ I) ≤ 2 ^ r * 2 ^ b * (mv Y * 2 ^ I) := by
    have d1 : V * 2 ^ a * (mv Y * 2 ^ I) = V * n * 2 ^ (a + J + I) := by rw [← g3, Nat.pow_add, Nat.pow_add]; ac_rfl
    have d2 : V * n * 2 ^ (a + J + I) ≤ 4 * (m * 2 ^ more) * 2 ^ (a + J + I) := Nat.mul_le_mul_right _ hVn
    have d3 : 4 * (m * 2 ^ more) * 2 ^ (a + J + I) = m * 2 ^ I * 2 ^ (2 + (more + J + a)) := by
      rw [show (4 : Nat) = 2 ^ 2 from rfl, Nat.pow_add 2 2, Nat.pow_add 2 (more + J), Nat.pow_add 2 more, Nat.pow_add 2 (a + J), Nat.pow_add 2 a]
      ac_rfl
    have d4 : m * 2 ^ I * 2 ^ (2 + (more + J + a)) = mv X * 2 ^ 1075 * 2 ^ (b + I) := by
      rw [h3, Nat.mul_assoc, ← Nat.pow_add]
      congr 2
      omega
    have d5 : mv X * 2 ^ 1075 * 2 ^ (b + I) ≤ 2 ^ r * mv Y * 2 ^ (b + I) := Nat.mul_le_mul_right _ h
    have d6 : 2 ^ r * mv Y * 2 ^ (b + I) = 2 ^ r * 2 ^ b * (mv Y * 2 ^ I) := by rw [Nat.pow_add]; ac_rfl
    rw [d1]
    refine Nat.le_trans d2 ?_
    rw [d3, d4]
    refine Nat.le_trans d5 ?_
    rw [d6]
    exact Nat.le_refl _
  exact Nat.le_of_mul_le_mul_right c1 (Nat.mul_pos hq (Nat.two_pow_pos _))

theorem bd_quo {X Y p q r : Nat} (hX : Bd X p) (hY : Fin64 Y) (hq : 2 ^ q ≤ mv Y) (h : p + 1075 ≤ r + q) (hr : r ≤ 2044) :
    Bd (fop .quo .f64 X Y) r ∧ sg (fop .quo .f64 X Y) = (sg X ^^ sg Y) := by
  refine bd_quo' hX.2.1 hY (Nat.lt_of_lt_of_le (Nat.two_pow_pos q) hq) ?_ hr
  have c1 : mv X * 2 ^ 1075 ≤ 2 ^ p * 2 ^ 1075 := Nat.mul_le_mul_right _ hX.2.2
  have c2 : 2 ^ p * 2 ^ 1075 ≤ 2 ^ r * 2 ^ q := by rw [← Nat.pow_add, ← Nat.pow_add]; exact two_pow_le h
  have c3 : 2 ^ r * 2 ^ q ≤ 2 ^ r * mv Y := Nat.mul_le_mul_left _ hq
  exact Nat.le_trans c1 (Nat.le_trans c2 c3)

/-! ### the square root -/
def fsqrt (X : Nat) : Nat := (double.sqrt X).getD (qn .f64)

theorem rootFrom_sq (n : Nat) : ∀ (todo root : Nat), root * root ≤ n → Datum.rootFrom n todo root * Datum.rootFrom n todo root ≤ n
  | 0, root, h => h
  | todo + 1, root, h => by
    unfold Datum.rootFrom
    dsimp only
    split
    · rename_i g; exact rootFrom_sq n todo _ g
    · exact rootFrom_sq n todo _ h

theorem bd_sqrt {X p r : Nat} (hX : Bd X p) (hs : sg X = false) (h : p + 1076 ≤ 2 * r) (hr : r ≤ 2044) : Bd (fsqrt X) r ∧ sg (fsqrt X) = false := by
  obtain ⟨m, i, h1, h2, h3, _⟩ := hX.2.1.read
  rcases Nat.eq_zero_or_pos m with hm | hm
  · have hf : fsqrt X = double.nearest false 0 i := by
      unfold fsqrt Format.sqrt
      rw [h1, hm, hs]; rfl
    rw [hf]
    obtain ⟨nr, ns⟩ := near_nearest false 0 i 0 1 (by omega) (by simp)
    exact ⟨nr.bd hr (by simp), ns⟩
  · obtain ⟨more0, hmore0⟩ : ∃ more0 : Nat, more0 = 2 * 54 - m.log2 := ⟨_, rfl⟩
    obtain ⟨more, hmore⟩ : ∃ more : Nat, more = more0 + ((i - more0) % 2).toNat := ⟨_, rfl⟩
    obtain ⟨w, hw⟩ : ∃ w, w = Datum.rootFrom (m <<< more) ((m <<< more).log2 / 2 + 1) 0 := ⟨_, rfl⟩
    obtain ⟨V, hV⟩ : ∃ V, V = 2 * w + (w * w != m <<< more).toNat := ⟨_, rfl⟩
    have hf : fsqrt X = double.nearest false V ((i - more) / 2 - 1) := by
      unfold fsqrt Format.sqrt
      rw [h1, hs]
      have hm0 : m ≠ 0 := by omega
      simp only [Datum.root, hm0, if_false, Bool.false_eq_true, Option.map_some, Option.getD_some, Format.write]
      rw [show double.fractionBits + 2 = 54 from rfl, ← hmore0, ← hmore, ← hw, ← hV]
    rw [hf]
    have hD : m <<< more = m * 2 ^ more := Nat.shiftLeft_eq _ _
    have hw2 : w * w ≤ m * 2 ^ more := by rw [hw, ← hD]; exact rootFrom_sq _ _ 0 (by simp)
    have hn1 : 1 ≤ m * 2 ^ more := Nat.mul_pos hm (Nat.two_pow_pos _)
    have hb : (w * w != m <<< more).toNat ≤ 1 := Bool.toNat_le _
    have hVle : V ≤ 2 * w + 1 := by omega
    have hww : w ≤ w * w := by
      rcases Nat.eq_zero_or_pos w with g | g
      · rw [g]; omega
      · exact Nat.le_mul_of_pos_left _ g
    have hV2 : V * V ≤ 16 * (m * 2 ^ more) := by
      have e1 : V * V ≤ (2 * w + 1) * (2 * w + 1) := Nat.mul_le_mul hVle hVle
      have e2 : (2 * w + 1) * (2 * w + 1) = 4 * (w * w) + 4 * w + 1 := by
        rw [Nat.add_mul, Nat.mul_add, Nat.mul_add]
        have : 2 * w * (2 * w) = 4 * (w * w) := by
          rw [show (4 : Nat) = 2 * 2 from rfl]; ac_rfl
        omega
      omega
    obtain ⟨pl, hpl⟩ : ∃ pl : Int, pl = (i - more) / 2 - 1 := ⟨_, rfl⟩
    rw [← hpl]
    have heven : (i - more) / 2 * 2 = i - more := by omega
    obtain ⟨a, ha⟩ : ∃ a : Nat, (pl - -1074).toNat = a := ⟨_, rfl⟩
    obtain ⟨b, hb'⟩ : ∃ b : Nat, (-1074 - pl).toNat = b := ⟨_, rfl⟩
    obtain ⟨I, hI⟩ : ∃ I : Nat, (i - -1074).toNat = I := ⟨_, rfl⟩
    have hsum : more + 2 * a = 2 * b + I + 1072 := by omega
    rw [hI] at h3
    obtain ⟨nr, ns⟩ := near_nearest false V pl (V * 2 ^ a) (2 ^ b) (Nat.two_pow_pos _) (by rw [ha, hb'])
    refine ⟨nr.bd hr ?_, ns⟩
    have hp1 : m * 2 ^ I ≤ 2 ^ p := by rw [h3]; exact hX.2.2
    rcases Nat.lt_or_ge (2 ^ r * 2 ^ b) (V * 2 ^ a) with g | g
    · exfalso
      have g2 := Nat.mul_lt_mul'' g g
      have c1 : V * 2 ^ a * (V * 2 ^ a) * 2 ^ I ≤ 2 ^ r * 2 ^ b * (2 ^ r * 2 ^ b) * 2 ^ I := by
        have d1 : V * 2 ^ a * (V * 2 ^ a) * 2 ^ I = V * V * 2 ^ (2 * a + I) := by rw [Nat.pow_add, Nat.two_mul, Nat.pow_add]; ac_rfl
        have d2 : V * V * 2 ^ (2 * a + I) ≤ 16 * (m * 2 ^ more) * 2 ^ (2 * a + I) := Nat.mul_le_mul_right _ hV2
        have d3 : 16 * (m * 2 ^ more) * 2 ^ (2 * a + I) = m * 2 ^ I * 2 ^ (4 + (more + 2 * a)) := by
          rw [show (16 : Nat) = 2 ^ 4 from rfl, Nat.pow_add 2 4, Nat.pow_add 2 (2 * a), Nat.pow_add 2 more]
          ac_rfl
        have d4 : m * 2 ^ I * 2 ^ (4 + (more + 2 * a)) ≤ 2 ^ p * 2 ^ (4 + (more + 2 * a)) := Nat.mul_le_mul_right _ hp1
        have d5 : 2 ^ p * 2 ^ (4 + (more + 2 * a)) ≤ 2 ^ (r + b + (r + b) + I) := by rw [← Nat.pow_add]; exact two_pow_le (by omega)
        have d6 : 2 ^ (r + b + (r + b) + I) = 2 ^ r * 2 ^ b * (2 ^ r * 2 ^ b) * 2 ^ I := by rw [Nat.pow_add, Nat.pow_add, Nat.pow_add]
        rw [d1]
        refine Nat.le_trans d2 ?_
        rw [d3]
        refine Nat.le_trans d4 (Nat.le_trans d5 ?_)
        rw [d6]
        exact Nat.le_refl _
      have := Nat.le_of_mul_le_mul_right c1 (Nat.two_pow_pos _)
      omega
    · exact g

/-! ### narrowing -/
theorem noOv_of_bd {X p : Nat} (hX : Bd X p) (hp : p ≤ 1201) : NoOv X := by
  right
  obtain ⟨m, e, h1, h2, h3, _⟩ := hX.2.1.read
  have hd : FloatKind.f64.decode X = .number (sg X) m e := h1
  have hinf : (FloatKind.f32.decode (FloatKind.f32.encode (.number (sg X) m e))).isInfinity = false := by
    have key : ∃ r, r < 2139095040 ∧ Ieee.single.nearest (sg X) m e = Ieee.single.word (sg X) r := by
      rcases Nat.eq_zero_or_pos m with hm | hm
      · exact ⟨0, by omega, by unfold Format.nearest; simp [hm]⟩
      · obtain ⟨r, g1, g2, g3⟩ := nearest_between Ieee.single (sg X) m e hm
        obtain ⟨r0, k1, k2⟩ := exists_rung Ieee.single 253 8388608 (by rw [bin32]; decide)
        rw [inf32] at g1 g3
        rw [bin32] at k2
        have hr0 : r0 < 2139095040 := k2
        refine ⟨r, Nat.lt_of_le_of_lt ((g3 r0 (by omega)).1 ?_) hr0, g2⟩
        rw [k1, lp32]
        obtain ⟨a, ha⟩ : ∃ a : Nat, (e - -149).toNat = a := ⟨_, rfl⟩
        obtain ⟨b, hb⟩ : ∃ b : Nat, (-149 - e).toNat = b := ⟨_, rfl⟩
        obtain ⟨E, hE⟩ : ∃ E : Nat, (e - -1074).toNat = E := ⟨_, rfl⟩
        rw [ha, hb]
        rw [hE] at h3
        have hsum : a + 925 = b + E := by omega
        have c : m * 2 ^ a * 2 ^ 925 ≤ 8388608 * 2 ^ 253 * 2 ^ b * 2 ^ 925 := by
          have d1 : m * 2 ^ a * 2 ^ 925 = m * 2 ^ E * 2 ^ b := by rw [Nat.mul_assoc, ← Nat.pow_add, hsum, Nat.pow_add]; ac_rfl
          have d2 : m * 2 ^ E ≤ 2 ^ 1201 := by rw [h3]; exact Nat.le_trans hX.2.2 (two_pow_le hp)
          have d3 : (2 : Nat) ^ 1201 = 8388608 * 2 ^ 253 * 2 ^ 925 := by decide +kernel
          rw [d1]
          refine Nat.le_trans (Nat.mul_le_mul_right _ d2) ?_
          rw [d3]
          have : 8388608 * 2 ^ 253 * 2 ^ 925 * 2 ^ b = 8388608 * 2 ^ 253 * 2 ^ b * 2 ^ 925 := by ac_rfl
          exact Nat.le_of_eq this
        exact Nat.le_of_mul_le_mul_right c (Nat.two_pow_pos _)
    obtain ⟨r, k1, k2⟩ := key
    show (Ieee.single.read (Ieee.single.nearest (sg X) m e)).isInfinity = false
    rw [k2]
    obtain ⟨mm, ee, hr, _⟩ := read_fin Ieee.single (sg X) (r := r) (by rw [inf32]; exact k1)
    rw [hr]; rfl
  unfold floatToFloatBits
  rw [if_neg (by decide), hd]
  simp only [hinf]
  rfl

attribute [irreducible] fsqrt

end Go.Fl
