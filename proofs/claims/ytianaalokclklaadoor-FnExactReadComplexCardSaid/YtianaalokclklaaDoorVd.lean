/-
  PLAIN LAWS: the number whose decimal text a text is. (No program here.)
-/
import Derived.Test.YtianaalokclklaaDoorTx
import Derived.Lib.ParseIntBCases
set_option linter.unusedVariables false
set_option linter.unusedSimpArgs false
namespace Go.Fl
open Go Go.RowKit

def inD (x lo hi : Int) : Bool := decide (lo ≤ x) && decide (x ≤ hi)
theorem inD_iff {x lo hi : Int} : inD x lo hi = true ↔ lo ≤ x ∧ x ≤ hi := by unfold inD; simp
abbrev inV (v : Int) : Bool := inD v (-1000000000000000) 1000000000000000
def dstep (a : Nat) (c : UInt8) : Nat := if 48 ≤ c.toNat ∧ c.toNat ≤ 57 then 10 * a + (c.toNat - 48) else a
def valD (l : List UInt8) : Nat := l.foldl dstep 0
def valS (l : List UInt8) : Int := if l.getD 0 0 = 45 then -(valD l : Int) else (valD l : Int)
def decB (l : List UInt8) : Bool := inV (valS l) && (Lib.itoa (valS l) == l)
theorem valD_snoc (l : List UInt8) (c : UInt8) : valD (l ++ [c]) = dstep (valD l) c := by unfold valD; rw [List.foldl_append]; rfl
theorem valD_take {l : List UInt8} {k : Nat} (h : k < l.length) : valD (l.take (k + 1)) = dstep (valD (l.take k)) (l.getD k 0) := by
  rw [List.take_add_one, List.getElem?_eq_getElem h, List.getD_eq_getElem?_getD, List.getElem?_eq_getElem h]
  exact valD_snoc _ _
theorem dstep_digit {a d : Nat} (h : d < 10) : dstep a (UInt8.ofNat (48 + d)) = 10 * a + d := by
  unfold dstep
  rw [digit_nat h, if_pos (by omega)]
  omega
theorem valD_dd : ∀ (u : Nat), valD (Lib.decDigits u) = u := by
  intro u
  induction u using Nat.strongRecOn with
  | ind u ih =>
    by_cases h : u < 10
    · rw [dd_small h]
      show dstep 0 _ = _
      rw [dstep_digit h]; omega
    · rw [dd_step h, valD_snoc, ih (u / 10) (by omega), dstep_digit (by omega)]
      omega
theorem dd_digits : ∀ (u : Nat), ∀ c ∈ Lib.decDigits u, 48 ≤ c.toNat ∧ c.toNat ≤ 57 := by
  intro u
  induction u using Nat.strongRecOn with
  | ind u ih =>
    intro c hc
    by_cases h : u < 10
    · rw [dd_small h] at hc
      obtain rfl := List.mem_singleton.1 hc
      rw [digit_nat h]; omega
    · rw [dd_step h, List.mem_append] at hc
      rcases hc with hc | hc
      · exact ih (u / 10) (by omega) c hc
      · obtain rfl := List.mem_singleton.1 hc
        rw [digit_nat (by omega)]; omega
theorem dd_ne (u : Nat) : Lib.decDigits u ≠ [] := by
  by_cases h : u < 10
  · rw [dd_small h]; simp
  · rw [dd_step h]; simp
theorem dd_head (u : Nat) : ∃ c r, Lib.decDigits u = c :: r ∧ 48 ≤ c.toNat ∧ c.toNat ≤ 57 := by
  cases hd : Lib.decDigits u with
  | nil => exact absurd hd (dd_ne u)
  | cons c r => exact ⟨c, r, rfl, dd_digits u c (by rw [hd]; simp)⟩
theorem valS_itoa (v : Int) : valS (Lib.itoa v) = v := by
  by_cases h : v < 0
  · rw [itoa_neg h]
    unfold valS
    rw [if_pos (by rfl)]
    have e : valD (45 :: Lib.decDigits v.natAbs) = valD (Lib.decDigits v.natAbs) := rfl
    rw [e, valD_dd]; omega
  · rw [itoa_nonneg h]
    obtain ⟨c, r, e, h1, h2⟩ := dd_head v.natAbs
    unfold valS
    rw [if_neg (by rw [e]; intro g; have : c = 45 := g; subst this; revert h1; decide), valD_dd]; omega
theorem parse_app (M : Nat) : ∀ (xs ys : List UInt8) (acc a : Nat), Lib.parseUintM M acc xs = .ok a → Lib.parseUintM M acc (xs ++ ys) = Lib.parseUintM M a ys
  | [], ys, acc, a, h => by
    simp only [Lib.parseUintM] at h
    injection h with h
    rw [h]; rfl
  | c :: r, ys, acc, a, h => by
    simp only [Lib.parseUintM, List.cons_append] at h ⊢
    split at h
    · rename_i g; rw [if_pos g]
      split at h
      · cases h
      · rename_i g2; rw [if_neg g2]
        split at h
        · cases h
        · rename_i g3; rw [if_neg g3]
          exact parse_app M r ys _ a h
    · cases h
theorem parse_one {M acc d : Nat} (h : d < 10) (h1 : acc < 1844674407370955162) (h2 : acc * 10 + d ≤ M) : Lib.parseUintM M acc [UInt8.ofNat (48 + d)] = .ok (acc * 10 + d) := by
  simp only [Lib.parseUintM]
  rw [digit_nat h, if_pos (by omega), if_neg (by omega), show 48 + d - 48 = d by omega, if_neg (by omega)]
theorem parse_dd {M : Nat} : ∀ (u : Nat), u ≤ M → u < 10000000000000000000 → Lib.parseUintM M 0 (Lib.decDigits u) = .ok u := by
  intro u
  induction u using Nat.strongRecOn with
  | ind u ih =>
    intro hM hu
    by_cases h : u < 10
    · rw [dd_small h, parse_one h (by omega) (by omega)]; congr 1; omega
    · rw [dd_step h, parse_app _ _ _ _ (u / 10) (ih (u / 10) (by omega) (by omega) (by omega)), parse_one (by omega) (by omega) (by omega)]
      congr 1; omega
theorem parse_itoa {v : Int} (h1 : -1000000000000000 ≤ v) (h2 : v ≤ 1000000000000000) : Lib.parseIntB 64 (Lib.itoa v) = .ok v := by
  have hu : Lib.parseUintB 64 (Lib.decDigits v.natAbs) = .ok v.natAbs := by
    unfold Lib.parseUintB
    rw [if_neg (dd_ne _)]
    exact parse_dd _ (by have : (2 : Nat) ^ 64 - 1 = 18446744073709551615 := by decide
                         omega) (by omega)
  have e63 : (2 : Nat) ^ (64 - 1) = 9223372036854775808 := by decide
  by_cases h : v < 0
  · rw [itoa_neg h, Lib.parseIntB_minus, hu]
    simp only [Lib.signedC, e63]
    rw [if_neg (by omega)]
    congr 1; omega
  · rw [itoa_nonneg h]
    obtain ⟨c, r, e, g1, g2⟩ := dd_head v.natAbs
    rw [e] at hu
    rw [e, Lib.parseIntB_plain 64 c r (by omega) (by omega), hu]
    simp only [Lib.signlessC, e63]
    rw [if_neg (by omega)]
    congr 1; omega
theorem decB_iff {l : List UInt8} : decB l = true ↔ ∃ v, inV v = true ∧ Lib.itoa v = l := by
  unfold decB
  rw [Bool.and_eq_true, beq_iff_eq]
  constructor
  · rintro ⟨h1, h2⟩; exact ⟨_, h1, h2⟩
  · rintro ⟨v, h1, rfl⟩; rw [valS_itoa]; exact ⟨h1, rfl⟩
theorem decB_parse {l : List UInt8} (h : decB l = true) : Lib.parseIntB 64 l = .ok (valS l) := by
  unfold decB at h
  rw [Bool.and_eq_true, beq_iff_eq] at h
  obtain ⟨h1, h2⟩ := inD_iff.1 h.1
  rw [← h.2, parse_itoa h1 h2, h.2]
theorem decB_len {l : List UInt8} (h : decB l = true) : 1 ≤ l.length ∧ l.length ≤ 17 := by
  obtain ⟨v, h1, rfl⟩ := decB_iff.1 h
  obtain ⟨h1, h2⟩ := inD_iff.1 h1
  have e : (10 : Nat) ^ (15 + 1) = 10000000000000000 := by decide
  have hl := dd_len 15 v.natAbs (by rw [e]; omega)
  have hn : 0 < (Lib.decDigits v.natAbs).length := List.length_pos_iff.2 (dd_ne _)
  by_cases hv : v < 0
  · rw [itoa_neg hv]; simp; omega
  · rw [itoa_nonneg hv]; omega
theorem valD_bd : ∀ (l : List UInt8), valD l < 10 ^ l.length := by
  intro l
  induction h : l.length generalizing l with
  | zero => rw [List.length_eq_zero_iff.1 h]; decide
  | succ k ih =>
    obtain ⟨m, c, rfl⟩ : ∃ m c, l = m ++ [c] := by
      rcases List.eq_nil_or_concat l with e | ⟨m, c, e⟩
      · rw [e] at h; cases h
      · exact ⟨m, c, by simpa using e⟩
    rw [List.length_append] at h
    have := ih m (by simpa using h)
    rw [valD_snoc, Nat.pow_succ]
    unfold dstep
    split <;> omega
end Go.Fl
