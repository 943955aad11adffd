/-
  PLAIN LAWS: the digits of a number, from the last one to the first. (No program here.)
-/
import Derived.Lib.ItoaNum
import Derived.Lib.UnsafeStr
import Derived.Test.YtianaalokclklaaDoorHl
set_option linter.unusedVariables false
set_option linter.unusedSimpArgs false
namespace Go.Fl
open Go Go.RowKit

theorem dd_small {u : Nat} (h : u < 10) : Lib.decDigits u = [UInt8.ofNat (48 + u)] := by rw [Lib.decDigits, dif_pos h]
theorem dd_step {u : Nat} (h : ¬ u < 10) : Lib.decDigits u = Lib.decDigits (u / 10) ++ [UInt8.ofNat (48 + u % 10)] := by rw [Lib.decDigits, dif_neg h]
/-- 'L' are the digits told so far, 'r' is what is left, 'j' digits are still to come at most -/
structure DInv (n : Int) (L : List UInt8) (r : Int) (j : Nat) : Prop where
  lt : r.natAbs < 10 ^ j
  len : L.length + j = 20
  fst : L = [] → r = n
  rest : L ≠ [] → Lib.decDigits n.natAbs = if r = 0 then L else Lib.decDigits r.natAbs ++ L
theorem DInv.start {n : Int} (h1 : -9223372036854775808 ≤ n) (h2 : n ≤ 9223372036854775807) : DInv n [] n 20 :=
  ⟨by have : (10 : Nat) ^ 20 = 100000000000000000000 := by decide
      omega, rfl, fun _ => rfl, fun h => absurd rfl h⟩
theorem DInv.next {n r : Int} {L : List UInt8} {j : Nat} (h : DInv n L r (j + 1)) (hg : L = [] ∨ r ≠ 0) : DInv n (UInt8.ofNat (48 + r.natAbs % 10) :: L) (r.tdiv 10) j := by
  have hq : (r.tdiv 10).natAbs = r.natAbs / 10 := Int.natAbs_tdiv r 10
  have hz : r.tdiv 10 = 0 ↔ r.natAbs < 10 := by
    constructor
    · intro e; rw [e] at hq; simp at hq; omega
    · intro e; have : (r.tdiv 10).natAbs = 0 := by rw [hq]; omega
      omega
  refine ⟨?_, by have := h.len; simp; omega, (fun h => by cases h), fun _ => ?_⟩
  · rw [hq]
    have := h.lt
    rw [Nat.pow_succ] at this
    exact Nat.div_lt_of_lt_mul (by omega)
  · have key : Lib.decDigits r.natAbs = if r.tdiv 10 = 0 then [UInt8.ofNat (48 + r.natAbs % 10)] else Lib.decDigits (r.tdiv 10).natAbs ++ [UInt8.ofNat (48 + r.natAbs % 10)] := by
      by_cases g : r.natAbs < 10
      · rw [if_pos (hz.2 g), dd_small g, Nat.mod_eq_of_lt g]
      · rw [if_neg (fun e => g (hz.1 e)), dd_step g, hq]
    by_cases hL : L = []
    · subst hL
      rw [← h.fst rfl, key]
    · have h0 : r ≠ 0 := by rcases hg with e | e; exact absurd e hL; exact e
      rw [h.rest hL, if_neg h0, key]
      split
      · rfl
      · rw [List.append_assoc]; rfl
theorem DInv.pos {n r : Int} {L : List UInt8} (h : DInv n L r 0) : L ≠ [] ∧ r = 0 := by
  have h1 := h.lt
  have h2 := h.len
  refine ⟨fun e => by subst e; simp at h2, by simp at h1; omega⟩
theorem DInv.done {n : Int} {L : List UInt8} {j : Nat} (h : DInv n L 0 j) (hL : L ≠ []) : Lib.decDigits n.natAbs = L := by rw [h.rest hL, if_pos rfl]
theorem itoa_neg {n : Int} (h : n < 0) : Lib.itoa n = 45 :: Lib.decDigits n.natAbs := by unfold Lib.itoa; rw [if_pos h]
theorem itoa_nonneg {n : Int} (h : ¬ n < 0) : Lib.itoa n = Lib.decDigits n.natAbs := by
  unfold Lib.itoa
  rw [if_neg h]
  congr 1; omega
theorem digit_in (r : Int) : r.natAbs % 10 < 10 := Nat.mod_lt _ (by omega)
theorem bytes_cons (c : UInt8) (L : List UInt8) : Lib.byteCells (c :: L) = [.int .u8 (c.toNat : Int)] ++ Lib.byteCells L := rfl
theorem digit_nat {d : Nat} (h : d < 10) : (UInt8.ofNat (48 + d)).toNat = 48 + d := by
  rw [UInt8.toNat_ofNat']; omega
theorem tdiv_bd {r : Int} (h1 : -9223372036854775808 ≤ r) (h2 : r ≤ 9223372036854775807) : -9223372036854775808 ≤ r.tdiv 10 ∧ r.tdiv 10 ≤ 9223372036854775807 := by
  have hq : (r.tdiv 10).natAbs = r.natAbs / 10 := Int.natAbs_tdiv r 10
  omega
theorem tmod_pos {r : Int} (h : 0 ≤ r) : r.tmod 10 = ((r.natAbs % 10 : Nat) : Int) ∧ r % 10 = ((r.natAbs % 10 : Nat) : Int) ∧ r / 10 = r.tdiv 10 := by
  rw [Int.tmod_eq_emod_of_nonneg h, Int.tdiv_eq_ediv_of_nonneg h]
  omega
theorem tmod_neg {r : Int} (h : r < 0) : r.tmod 10 = -((r.natAbs % 10 : Nat) : Int) := by
  obtain ⟨m, rfl⟩ : ∃ m : Nat, r = -(m : Int) := ⟨r.natAbs, by omega⟩
  rw [Int.neg_tmod, Int.tmod_eq_emod_of_nonneg (by omega), Int.natAbs_neg, Int.natAbs_natCast]
  omega
end Go.Fl
