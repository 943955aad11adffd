/-
  PLAIN LAWS: eight digits at base 16, read. (No program here.)
-/
import Derived.Test.YtianaalokclklaaDoorHx
import Derived.Test.YtianaalokclklaaDoorFx
set_option linter.unusedVariables false
set_option linter.unusedSimpArgs false
namespace Go.Fl
open Go Go.RowKit

/-- the digit that a byte is, or -1 -/
def hdig (c : UInt8) : Int := if 48 ≤ c.toNat ∧ c.toNat ≤ 57 then (c.toNat : Int) - 48 else if 97 ≤ c.toNat ∧ c.toNat ≤ 102 then (c.toNat : Int) - 97 + 10 else -1
def hstep (a : Nat) (c : UInt8) : Nat := 16 * a + (hdig c).toNat
def valH (l : List UInt8) : Nat := l.foldl hstep 0
def allH (l : List UInt8) : Bool := l.all fun c => decide (0 ≤ hdig c)
theorem valH_snoc (l : List UInt8) (c : UInt8) : valH (l ++ [c]) = 16 * valH l + (hdig c).toNat := by unfold valH; rw [List.foldl_append]; rfl
theorem hdig_dg : ∀ d : Fin 16, hdig (hexDg d.val) = (d.val : Int) := by decide
theorem hdig_lt (c : UInt8) : hdig c < 16 := by
  unfold hdig
  split
  · omega
  · split <;> omega
theorem dg_hdig {c : UInt8} (h : 0 ≤ hdig c) : hexDg (hdig c).toNat = c := by
  unfold hdig at *
  split at h
  · rename_i g
    rw [if_pos g]
    obtain ⟨d, hd⟩ : ∃ d, d = c.toNat - 48 := ⟨_, rfl⟩
    have e : ((c.toNat : Int) - 48).toNat = d := by omega
    have hc : c = UInt8.ofNat (48 + d) := UInt8.toNat_inj.1 (by rw [UInt8.toNat_ofNat']; omega)
    rw [e, hc]
    have : ∀ d : Fin 10, hexDg d.val = UInt8.ofNat (48 + d.val) := by decide
    exact this ⟨d, by omega⟩
  · rename_i g
    split at h
    · rename_i g2
      rw [if_neg g, if_pos g2]
      obtain ⟨d, hd⟩ : ∃ d, d = c.toNat - 97 := ⟨_, rfl⟩
      have e : ((c.toNat : Int) - 97 + 10).toNat = d + 10 := by omega
      have hc : c = UInt8.ofNat (97 + d) := UInt8.toNat_inj.1 (by rw [UInt8.toNat_ofNat']; omega)
      rw [e, hc]
      have : ∀ d : Fin 6, hexDg (d.val + 10) = UInt8.ofNat (97 + d.val) := by decide
      exact this ⟨d, by omega⟩
    · omega
theorem valH_hexK : ∀ k n, n < 16 ^ k → valH (hexK k n) = n
  | 0, n, h => by simp at h; subst h; rfl
  | k + 1, n, h => by
    rw [hexK, valH_snoc, valH_hexK k (n / 16) (by rw [Nat.pow_succ] at h; omega), hdig_dg ⟨n % 16, by omega⟩]
    show 16 * (n / 16) + ((n % 16 : Nat) : Int).toNat = n
    omega
theorem allH_hexK : ∀ k n, allH (hexK k n) = true
  | 0, _ => rfl
  | k + 1, n => by
    unfold allH
    rw [hexK, List.all_append, Bool.and_eq_true]
    refine ⟨allH_hexK k _, ?_⟩
    rw [List.all_cons, List.all_nil, Bool.and_true, decide_eq_true_eq, hdig_dg ⟨n % 16, by omega⟩]
    show (0 : Int) ≤ ((n % 16 : Nat) : Int)
    omega
theorem hexK_valH : ∀ (k : Nat) (l : List UInt8), l.length = k → allH l = true → l = hexK k (valH l) ∧ valH l < 16 ^ k
  | 0, l, h, _ => by rw [List.length_eq_zero_iff.1 h]; exact ⟨rfl, by decide⟩
  | k + 1, l, h, ha => by
    obtain ⟨m, c, rfl⟩ : ∃ m c, l = m ++ [c] := by
      rcases List.eq_nil_or_concat l with e | ⟨m, c, e⟩
      · rw [e] at h; cases h
      · exact ⟨m, c, by simpa using e⟩
    unfold allH at ha
    rw [List.all_append, Bool.and_eq_true, List.all_cons, List.all_nil, Bool.and_true, decide_eq_true_eq] at ha
    obtain ⟨h1, h2⟩ := hexK_valH k m (by simpa using h) ha.1
    have h3 := hdig_lt c
    have h4 := dg_hdig ha.2
    rw [valH_snoc, hexK, Nat.pow_succ]
    have e1 : (16 * valH m + (hdig c).toNat) / 16 = valH m := by omega
    have e2 : (16 * valH m + (hdig c).toNat) % 16 = (hdig c).toNat := by omega
    rw [e1, e2, ← h1, h4]
    exact ⟨rfl, by omega⟩
/-- the word whose digits a text is -/
def hexB (l : List UInt8) : Bool := decide (l.length = 8) && allH l && (cn .f32 (valH l) == valH l)
theorem hexB_iff {l : List UInt8} : hexB l = true ↔ ∃ X, X < 4294967296 ∧ cn .f32 X = X ∧ l = hex8 X := by
  unfold hexB
  rw [Bool.and_eq_true, Bool.and_eq_true, decide_eq_true_eq, beq_iff_eq]
  constructor
  · rintro ⟨⟨h1, h2⟩, h3⟩
    obtain ⟨g1, g2⟩ := hexK_valH 8 l h1 h2
    exact ⟨_, g2, h3, g1⟩
  · rintro ⟨X, h1, h2, rfl⟩
    have e := valH_hexK 8 X h1
    exact ⟨⟨hexK_len 8 X, allH_hexK 8 X⟩, by rw [e]; exact h2⟩
theorem valH_hex8 {X : Nat} (h : X < 4294967296) : valH (hex8 X) = X := valH_hexK 8 X h
theorem allH_at {l : List UInt8} (h : allH l = true) {k : Nat} (hk : k < l.length) : 0 ≤ hdig (l.getD k 0) := by
  unfold allH at h
  rw [List.all_eq_true] at h
  have := h (l.getD k 0) (by rw [List.getD_eq_getElem?_getD, List.getElem?_eq_getElem hk]; exact List.getElem_mem hk)
  simpa using this
theorem valH_take {l : List UInt8} {k : Nat} (h : k < l.length) : valH (l.take (k + 1)) = 16 * valH (l.take k) + (hdig (l.getD k 0)).toNat := by
  rw [List.take_add_one, List.getElem?_eq_getElem h, List.getD_eq_getElem?_getD, List.getElem?_eq_getElem h]
  exact valH_snoc _ _
theorem valH_bd : ∀ (l : List UInt8), valH l < 16 ^ l.length := by
  intro l
  induction h : l.length generalizing l with
  | zero => rw [List.length_eq_zero_iff.1 h]; decide
  | succ k ih =>
    obtain ⟨m, c, rfl⟩ : ∃ m c, l = m ++ [c] := by
      rcases List.eq_nil_or_concat l with e | ⟨m, c, e⟩
      · rw [e] at h; cases h
      · exact ⟨m, c, by simpa using e⟩
    rw [List.length_append] at h
    have := ih m (by simpa using h)
    have := hdig_lt c
    rw [valH_snoc, Nat.pow_succ]
    omega
end Go.Fl
