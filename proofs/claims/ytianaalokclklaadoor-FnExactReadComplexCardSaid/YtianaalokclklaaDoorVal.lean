/-
  ROUNDING, SAID BY COMPARISON: the rung to which a number is rounded lies not above a rung whose value is not below the number, and not below one whose value is not above it. (No program here.)
-/
import Ieee.Arith
import Derived.Laws.FloatBits
set_option linter.unusedVariables false
set_option linter.unusedSimpArgs false
namespace Go.Fl
open Ieee

/-- the value of a rung, in units of the least place -/
def rv (f : Format) (r : Nat) : Nat := if r < f.binade then r else (f.binade + r % f.binade) * 2 ^ (r / f.binade - 1)

theorem rv_parts (f : Format) (r : Nat) : ∃ n q, rv f r = n * 2 ^ q ∧ n < 2 * f.binade ∧ (0 < q → f.binade ≤ n) ∧ r = q * f.binade + n := by
  have hb : 0 < f.binade := Nat.two_pow_pos _
  unfold rv
  by_cases h : r < f.binade
  · rw [if_pos h]
    exact ⟨r, 0, by simp, by omega, by omega, by simp⟩
  · rw [if_neg h]
    refine ⟨f.binade + r % f.binade, r / f.binade - 1, rfl, ?_, by omega, ?_⟩
    · have := Nat.mod_lt r hb; omega
    · have h1 : 1 ≤ r / f.binade := (Nat.le_div_iff_mul_le hb).2 (by omega)
      have h2 := Nat.div_add_mod r f.binade
      obtain ⟨d, hd⟩ : ∃ d, r / f.binade = d + 1 := ⟨r / f.binade - 1, by omega⟩
      rw [hd] at h2 ⊢
      rw [Nat.mul_add] at h2
      rw [Nat.add_sub_cancel, Nat.mul_comm d]
      omega

theorem rv_of_parts (f : Format) {n q : Nat} (h1 : n < 2 * f.binade) (h2 : 0 < q → f.binade ≤ n) : rv f (q * f.binade + n) = n * 2 ^ q := by
  have hb : 0 < f.binade := Nat.two_pow_pos _
  unfold rv
  by_cases hq : q = 0
  · subst hq
    simp only [Nat.zero_mul, Nat.zero_add, Nat.pow_zero, Nat.mul_one]
    by_cases h : n < f.binade
    · rw [if_pos h]
    · rw [if_neg h]
      obtain ⟨d, hd⟩ : ∃ d, n = f.binade + d := ⟨n - f.binade, by omega⟩
      subst hd
      have hd : d < f.binade := by omega
      rw [Nat.add_mod_left, Nat.mod_eq_of_lt hd, Nat.add_div_left _ hb, Nat.div_eq_of_lt hd]
      simp
  · have hn := h2 (by omega)
    obtain ⟨d, hd⟩ : ∃ d, n = f.binade + d := ⟨n - f.binade, by omega⟩
    subst hd
    have hd : d < f.binade := by omega
    have hge : f.binade ≤ q * f.binade := Nat.le_mul_of_pos_left _ (by omega)
    rw [if_neg (by omega)]
    have e : q * f.binade + (f.binade + d) = d + f.binade * (q + 1) := by rw [Nat.mul_add, Nat.mul_comm q]; omega
    rw [e, Nat.add_mul_mod_self_left, Nat.mod_eq_of_lt hd, Nat.add_mul_div_left _ _ hb, Nat.div_eq_of_lt hd]
    simp

theorem two_pow_le {a b : Nat} (h : a ≤ b) : 2 ^ a ≤ 2 ^ b := Nat.pow_le_pow_right (by omega) h

theorem rv_lt (f : Format) {r s : Nat} (h : r < s) : rv f r < rv f s := by
  have hb : 0 < f.binade := Nat.two_pow_pos _
  obtain ⟨n, q, e, h1, h2, h3⟩ := rv_parts f r
  obtain ⟨m, p, e', h1', h2', h3'⟩ := rv_parts f s
  rw [e, e']
  by_cases hqp : q = p
  · subst hqp
    exact Nat.mul_lt_mul_of_pos_right (by omega) (Nat.two_pow_pos _)
  · have hlt : q < p := by
      rcases Nat.lt_or_ge q p with g | g
      · exact g
      · exfalso
        have g' : p + 1 ≤ q := by omega
        have g2 : (p + 1) * f.binade ≤ q * f.binade := Nat.mul_le_mul_right _ g'
        rw [Nat.add_mul, Nat.one_mul] at g2
        have := h2 (by omega)
        omega
    have hm := h2' (by omega)
    have g1 : n * 2 ^ q < 2 * f.binade * 2 ^ q := Nat.mul_lt_mul_of_pos_right h1 (Nat.two_pow_pos _)
    have g2 : 2 * f.binade * 2 ^ q = f.binade * 2 ^ (q + 1) := by rw [Nat.pow_succ]; ac_rfl
    have g3 : f.binade * 2 ^ (q + 1) ≤ m * 2 ^ p := Nat.mul_le_mul hm (two_pow_le (by omega))
    omega

theorem rv_le (f : Format) {r s : Nat} (h : r ≤ s) : rv f r ≤ rv f s := by
  rcases Nat.eq_or_lt_of_le h with rfl | h
  · exact Nat.le_refl _
  · exact Nat.le_of_lt (rv_lt f h)

theorem le_of_rv_le (f : Format) {r s : Nat} (h : rv f r ≤ rv f s) : r ≤ s := by
  rcases Nat.lt_or_ge s r with g | g
  · have := rv_lt f g; omega
  · exact g

theorem lt_of_rv_lt (f : Format) {r s : Nat} (h : rv f r < rv f s) : r < s := by
  rcases Nat.lt_or_ge r s with g | g
  · exact g
  · have := rv_le f g; omega

theorem eq_of_rv_eq (f : Format) {r s : Nat} (h : rv f r = rv f s) : r = s :=
  Nat.le_antisymm (le_of_rv_le f (by omega)) (le_of_rv_le f (by omega))

theorem shl_one (n : Nat) : 1 <<< n = 2 ^ n := by rw [Nat.shiftLeft_eq, Nat.one_mul]

/-- rounding to a whole number -/
theorem cut_far {neg : Bool} {n drop : Nat} (h : n.log2 + 2 < drop) : Toward.even.cut neg n drop = 0 := by
  have h1 : n < 2 ^ (n.log2 + 1) := Nat.lt_log2_self
  have hg : 1 <<< min drop (n.log2 + 2) = 2 * 2 ^ (n.log2 + 1) := by rw [Nat.min_eq_right (by omega), shl_one, Nat.pow_succ]; omega
  unfold Toward.cut
  simp only [hg]
  have e1 : n / (2 * 2 ^ (n.log2 + 1)) = 0 := Nat.div_eq_of_lt (by omega)
  have e2 : n % (2 * 2 ^ (n.log2 + 1)) = n := Nat.mod_eq_of_lt (by omega)
  rw [e1, e2]
  have b1 : decide (2 * 2 ^ (n.log2 + 1) < 2 * n) = false := decide_eq_false (by omega)
  rw [b1]
  simp

theorem cut_near {neg : Bool} {n drop : Nat} (h : drop ≤ n.log2 + 2) :
    Toward.even.cut neg n drop = n / 2 ^ drop + (2 ^ drop < 2 * (n % 2 ^ drop) || (2 ^ drop == 2 * (n % 2 ^ drop) && n / 2 ^ drop % 2 == 1) : Bool).toNat := by
  unfold Toward.cut
  simp only [Nat.min_eq_left h, shl_one]

theorem cut_le {neg : Bool} {n drop N : Nat} (h : n ≤ N * 2 ^ drop) : Toward.even.cut neg n drop ≤ N := by
  by_cases hd : n.log2 + 2 < drop
  · rw [cut_far hd]; omega
  · rw [cut_near (by omega)]
    have hp : 0 < 2 ^ drop := Nat.two_pow_pos _
    generalize 2 ^ drop = g at h hp
    have h1 : n / g ≤ N := Nat.div_le_of_le_mul (by rw [Nat.mul_comm]; exact h)
    by_cases he : n / g = N
    · have h3 := Nat.div_add_mod n g
      rw [he, Nat.mul_comm] at h3
      have h4 : n % g = 0 := by omega
      have b1 : decide (g < 2 * (n % g)) = false := by simp; omega
      have b2 : (g == 2 * (n % g)) = false := by simp; omega
      rw [b1, b2, he]; simp
    · have : (decide (g < 2 * (n % g)) || (g == 2 * (n % g) && n / g % 2 == 1)).toNat ≤ 1 := Bool.toNat_le _
      omega

theorem le_cut {neg : Bool} {n drop N : Nat} (h : N * 2 ^ drop ≤ n) : N ≤ Toward.even.cut neg n drop := by
  by_cases hd : n.log2 + 2 < drop
  · have h1 : n < 2 ^ (n.log2 + 1) := Nat.lt_log2_self
    have h2 : 2 ^ (n.log2 + 1) ≤ 2 ^ drop := two_pow_le (by omega)
    rcases Nat.eq_zero_or_pos N with h0 | h0
    · omega
    · have : 1 * 2 ^ drop ≤ N * 2 ^ drop := Nat.mul_le_mul_right _ h0
      omega
  · rw [cut_near (by omega)]
    have := (Nat.le_div_iff_mul_le (Nat.two_pow_pos drop)).2 h
    omega

/-- THE SANDWICH -/
theorem nearest_between (f : Format) (neg : Bool) (mag : Nat) (place : Int) (hm : 0 < mag) :
    ∃ r, r ≤ f.infRung ∧ f.nearest neg mag place = f.word neg r ∧ ∀ r0, r0 ≤ f.infRung →
      (mag * 2 ^ (place - f.leastPlace).toNat ≤ rv f r0 * 2 ^ (f.leastPlace - place).toNat → r ≤ r0) ∧
      (rv f r0 * 2 ^ (f.leastPlace - place).toNat ≤ mag * 2 ^ (place - f.leastPlace).toNat → r0 ≤ r) := by
  have hb : 0 < f.binade := Nat.two_pow_pos _
  have hL1 : 2 ^ mag.log2 ≤ mag := Nat.log2_self_le (by omega)
  have hL2 : mag < 2 ^ (mag.log2 + 1) := Nat.lt_log2_self
  unfold Format.nearest
  dsimp only
  rw [if_neg (by omega)]
  generalize hlast : max (place + mag.log2 - f.fractionBits) f.leastPlace = last
  generalize hq : (last - f.leastPlace).toNat = q
  generalize hc : (place - last).toNat = c
  generalize hD : (last - place).toNat = D
  generalize ha : (place - f.leastPlace).toNat = a
  generalize hbb : (f.leastPlace - place).toNat = b
  have hsum : a + D = b + q + c := by omega
  rw [Nat.shiftLeft_eq]
  generalize hk : Toward.even.cut neg (mag * 2 ^ c) D = kept
  -- kept is at most two binades
  have k2 : kept ≤ 2 * f.binade := by
    rw [← hk]
    apply cut_le
    have e : 2 * f.binade = 2 ^ (f.fractionBits + 1) := by unfold Format.binade; rw [Nat.pow_succ]; omega
    rw [e, ← Nat.pow_add]
    have : mag * 2 ^ c ≤ 2 ^ (mag.log2 + 1) * 2 ^ c := Nat.mul_le_mul_right _ (by omega)
    rw [← Nat.pow_add] at this
    exact Nat.le_trans this (two_pow_le (by omega))
  have kq : 0 < q → f.binade * 2 ^ D ≤ mag * 2 ^ c := by
    intro hq0
    have e1 : 2 ^ (mag.log2 + c) ≤ mag * 2 ^ c := by rw [Nat.pow_add]; exact Nat.mul_le_mul_right _ hL1
    refine Nat.le_trans ?_ e1
    unfold Format.binade
    rw [← Nat.pow_add]
    exact two_pow_le (by omega)
  have k1 : 0 < q → f.binade ≤ kept := by
    intro hq0
    rw [← hk]
    exact le_cut (kq hq0)
  have hval : rv f (q * f.binade + kept) = kept * 2 ^ q := by
    rcases Nat.lt_or_ge kept (2 * f.binade) with g | g
    · exact rv_of_parts f g k1
    · have e : kept = 2 * f.binade := by omega
      rw [e]
      have e2 : q * f.binade + 2 * f.binade = (q + 1) * f.binade + f.binade := by rw [Nat.add_mul]; omega
      rw [e2, rv_of_parts f (by omega) (by omega), Nat.pow_succ]
      ac_rfl
  refine ⟨min (q * f.binade + kept) f.infRung, Nat.min_le_right _ _, rfl, ?_⟩
  intro r0 hr0
  obtain ⟨n0, q0, e0, g1, g2, g3⟩ := rv_parts f r0
  rw [e0]
  constructor
  · intro hv
    have hmul : mag * 2 ^ c * 2 ^ (b + q) ≤ n0 * 2 ^ q0 * 2 ^ (b + D) := by
      have h1 : mag * 2 ^ a * 2 ^ D ≤ n0 * 2 ^ q0 * 2 ^ b * 2 ^ D := Nat.mul_le_mul_right _ hv
      have h2 : mag * 2 ^ a * 2 ^ D = mag * 2 ^ c * 2 ^ (b + q) := by
        rw [Nat.mul_assoc, Nat.mul_assoc, ← Nat.pow_add, ← Nat.pow_add, hsum, Nat.add_comm c]
      have h3 : n0 * 2 ^ q0 * 2 ^ b * 2 ^ D = n0 * 2 ^ q0 * 2 ^ (b + D) := by rw [Nat.pow_add, Nat.mul_assoc (n0 * 2 ^ q0)]
      omega
    have hle : q * f.binade + kept ≤ r0 := by
      rcases Nat.lt_or_ge q0 q with g | g
      · exfalso
        have hk' := kq (by omega)
        have t1 : f.binade * 2 ^ D * 2 ^ (b + q) ≤ mag * 2 ^ c * 2 ^ (b + q) := Nat.mul_le_mul_right _ hk'
        have t2 : n0 * 2 ^ q0 * 2 ^ (b + D) < 2 * f.binade * 2 ^ q0 * 2 ^ (b + D) :=
          Nat.mul_lt_mul_of_pos_right (Nat.mul_lt_mul_of_pos_right g1 (Nat.two_pow_pos _)) (Nat.two_pow_pos _)
        have t3 : 2 * f.binade * 2 ^ q0 * 2 ^ (b + D) = f.binade * 2 ^ (q0 + 1 + (b + D)) := by
          rw [Nat.pow_add 2 (q0 + 1), Nat.pow_succ]; ac_rfl
        have t4 : f.binade * 2 ^ D * 2 ^ (b + q) = f.binade * 2 ^ (q + (b + D)) := by
          rw [Nat.mul_assoc, ← Nat.pow_add]; congr 2; omega
        have t5 : f.binade * 2 ^ (q0 + 1 + (b + D)) ≤ f.binade * 2 ^ (q + (b + D)) := Nat.mul_le_mul_left _ (two_pow_le (by omega))
        omega
      · apply le_of_rv_le f
        rw [hval, e0]
        have hN : mag * 2 ^ c ≤ n0 * 2 ^ (q0 - q) * 2 ^ D := by
          have e1 : n0 * 2 ^ q0 * 2 ^ (b + D) = n0 * 2 ^ (q0 - q) * 2 ^ D * 2 ^ (b + q) := by
            rw [Nat.mul_assoc, Nat.mul_assoc n0, Nat.mul_assoc n0, ← Nat.pow_add, ← Nat.pow_add, ← Nat.pow_add]; congr 2; omega
          rw [e1] at hmul
          exact Nat.le_of_mul_le_mul_right hmul (Nat.two_pow_pos _)
        have hkn : kept ≤ n0 * 2 ^ (q0 - q) := by rw [← hk]; exact cut_le hN
        have e2 : n0 * 2 ^ q0 = n0 * 2 ^ (q0 - q) * 2 ^ q := by rw [Nat.mul_assoc, ← Nat.pow_add]; congr 2; omega
        rw [e2]
        exact Nat.mul_le_mul_right _ hkn
    omega
  · intro hv
    have hmul : n0 * 2 ^ q0 * 2 ^ (b + D) ≤ mag * 2 ^ c * 2 ^ (b + q) := by
      have h1 : n0 * 2 ^ q0 * 2 ^ b * 2 ^ D ≤ mag * 2 ^ a * 2 ^ D := Nat.mul_le_mul_right _ hv
      have h2 : mag * 2 ^ a * 2 ^ D = mag * 2 ^ c * 2 ^ (b + q) := by
        rw [Nat.mul_assoc, Nat.mul_assoc, ← Nat.pow_add, ← Nat.pow_add, hsum, Nat.add_comm c]
      have h3 : n0 * 2 ^ q0 * 2 ^ b * 2 ^ D = n0 * 2 ^ q0 * 2 ^ (b + D) := by rw [Nat.pow_add, Nat.mul_assoc (n0 * 2 ^ q0)]
      omega
    have hle : r0 ≤ q * f.binade + kept := by
      apply le_of_rv_le f
      rw [hval, e0]
      rcases Nat.lt_or_ge q0 q with g | g
      · have hk' := k1 (by omega)
        have t1 : n0 * 2 ^ q0 < 2 * f.binade * 2 ^ q0 := Nat.mul_lt_mul_of_pos_right g1 (Nat.two_pow_pos _)
        have t2 : 2 * f.binade * 2 ^ q0 = f.binade * 2 ^ (q0 + 1) := by rw [Nat.pow_succ]; ac_rfl
        have t3 : f.binade * 2 ^ (q0 + 1) ≤ kept * 2 ^ q := Nat.mul_le_mul hk' (two_pow_le (by omega))
        omega
      · have hN : n0 * 2 ^ (q0 - q) * 2 ^ D ≤ mag * 2 ^ c := by
          have e1 : n0 * 2 ^ q0 * 2 ^ (b + D) = n0 * 2 ^ (q0 - q) * 2 ^ D * 2 ^ (b + q) := by
            rw [Nat.mul_assoc, Nat.mul_assoc n0, Nat.mul_assoc n0, ← Nat.pow_add, ← Nat.pow_add, ← Nat.pow_add]; congr 2; omega
          rw [e1] at hmul
          exact Nat.le_of_mul_le_mul_right hmul (Nat.two_pow_pos _)
        have hkn : n0 * 2 ^ (q0 - q) ≤ kept := by rw [← hk]; exact le_cut hN
        have e2 : n0 * 2 ^ q0 = n0 * 2 ^ (q0 - q) * 2 ^ q := by rw [Nat.mul_assoc, ← Nat.pow_add]; congr 2; omega
        rw [e2]
        exact Nat.mul_le_mul_right _ hkn
    omega

end Go.Fl
