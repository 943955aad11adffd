/-
  PLAIN LAWS: the text of a list of integers. (No program here.)
-/
import Derived.Test.YtianaalokclklaaDoorDec
import Derived.Lib.Join
set_option linter.unusedVariables false
set_option linter.unusedSimpArgs false
namespace Go.Fl
open Go Go.RowKit

theorem dd_len : ∀ (k u : Nat), u < 10 ^ (k + 1) → (Lib.decDigits u).length ≤ k + 1
  | 0, u, h => by rw [dd_small (by simpa using h)]; simp
  | k + 1, u, h => by
    by_cases g : u < 10
    · rw [dd_small g]; simp
    · rw [dd_step g, List.length_append]
      have := dd_len k (u / 10) (by rw [Nat.pow_succ] at h; omega)
      simp only [List.length_singleton]; omega
theorem itoa_len {n : Int} (h1 : -9223372036854775808 ≤ n) (h2 : n ≤ 9223372036854775807) : (Lib.itoa n).length ≤ 20 := by
  have e : (10 : Nat) ^ (18 + 1) = 10000000000000000000 := by decide
  by_cases h : n < 0
  · rw [itoa_neg h]
    have := dd_len 18 n.natAbs (by rw [e]; omega)
    simp; omega
  · rw [itoa_nonneg h]
    have := dd_len 18 n.natAbs (by rw [e]; omega)
    omega
theorem join_snoc (x : List UInt8) (r : List (List UInt8)) (y sep : List UInt8) : Lib.join (x :: r ++ [y]) sep = Lib.join (x :: r) sep ++ (sep ++ y) := by
  rw [List.cons_append, Lib.join_cons, Lib.join_cons]
  unfold Lib.joinTail
  rw [List.map_append, List.flatten_append, List.append_assoc]
  simp
/-- the texts, with a comma between two -/
def tx (f : Nat → List UInt8) : Nat → List UInt8
  | 0 => []
  | 1 => f 0
  | k + 2 => tx f (k + 1) ++ 44 :: f (k + 1)
theorem tx_succ (f : Nat → List UInt8) {k : Nat} (h : 1 ≤ k) : tx f (k + 1) = tx f k ++ 44 :: f k := by
  obtain ⟨j, rfl⟩ : ∃ j, k = j + 1 := ⟨k - 1, by omega⟩
  rfl
theorem tx_join (f : Nat → List UInt8) (k : Nat) : tx f (k + 1) = Lib.join ((List.range (k + 1)).map f) [44] := by
  induction k with
  | zero => simp [tx, Lib.join_one]
  | succ k ih =>
    rw [List.range_succ, List.map_append, tx, ih]
    obtain ⟨x, r, e⟩ : ∃ x r, (List.range (k + 1)).map f = x :: r := by
      cases hL : (List.range (k + 1)).map f with
      | nil => have := congrArg List.length hL; simp at this
      | cons x r => exact ⟨x, r, rfl⟩
    rw [e, List.map_singleton, join_snoc]
    rfl
theorem tx_len (f : Nat → List UInt8) (m n : Nat) (h : ∀ i, i < n → (f i).length ≤ m) : ∀ k, k ≤ n → (tx f k).length ≤ (m + 1) * k
  | 0, _ => by simp [tx]
  | 1, hk => by have := h 0 (by omega); simp only [tx]; omega
  | k + 2, hk => by
    have h1 := tx_len f m n h (k + 1) (by omega)
    have h2 := h (k + 1) (by omega)
    simp only [tx, List.length_append, List.length_cons]
    have : (m + 1) * (k + 2) = (m + 1) * (k + 1) + (m + 1) := by rw [Nat.mul_succ]
    omega
/-- 'none' for no text -/
def txt (f : Nat → List UInt8) (n : Nat) : List UInt8 := if n = 0 then [110, 111, 110, 101] else tx f n
/-- the row of the texts -/
def strs (f : Nat → List UInt8) (n : Nat) : List ByteArray := (List.range n).map fun i => ⟨(f i).toArray⟩
theorem strs_len (f : Nat → List UInt8) (n : Nat) : (strs f n).length = n := by simp [strs]
theorem strs_at (f : Nat → List UInt8) {n j : Nat} (h : j < n) : (strs f n)[j]? = some ⟨(f j).toArray⟩ := by simp [strs, h]
theorem strs_lists (f : Nat → List UInt8) (n : Nat) : (strs f n).map (·.data.toList) = (List.range n).map f := by simp [strs, Function.comp_def]
theorem strs_succ (f : Nat → List UInt8) (n : Nat) : (strs f (n + 1)).map Value.string = (strs f n).map Value.string ++ [.string ⟨(f n).toArray⟩] := by
  unfold strs; rw [List.range_succ]; simp
theorem txt_join (f : Nat → List UInt8) {n : Nat} (h : 1 ≤ n) : Lib.join ((strs f n).map (·.data.toList)) [44] = txt f n := by
  obtain ⟨k, rfl⟩ : ∃ k, n = k + 1 := ⟨n - 1, by omega⟩
  rw [strs_lists, ← tx_join]
  rfl
end Go.Fl
