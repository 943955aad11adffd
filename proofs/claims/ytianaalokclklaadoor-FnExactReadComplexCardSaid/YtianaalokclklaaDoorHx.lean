/-
  PLAIN LAWS: the digits of a number at base 16. (No program here.)
-/
import Derived.Test.YtianaalokclklaaDoorMd
import Derived.Test.YtianaalokclklaaDoorTx
import Derived.Lib.Repeat
set_option linter.unusedVariables false
set_option linter.unusedSimpArgs false
namespace Go.Fl
open Go Go.RowKit

def hexTab : List UInt8 := [48, 49, 50, 51, 52, 53, 54, 55, 56, 57, 97, 98, 99, 100, 101, 102]
def hexDg (d : Nat) : UInt8 := hexTab.getD d 0
def hexD (u : Nat) : List UInt8 := if h : u < 16 then [hexDg u] else hexD (u / 16) ++ [hexDg (u % 16)]
termination_by u
decreasing_by omega
theorem hexD_small {u : Nat} (h : u < 16) : hexD u = [hexDg u] := by rw [hexD, dif_pos h]
theorem hexD_step {u : Nat} (h : ¬ u < 16) : hexD u = hexD (u / 16) ++ [hexDg (u % 16)] := by rw [hexD, dif_neg h]
structure HInv (n : Nat) (L : List UInt8) (m : Nat) : Prop where
  eq : hexD n = hexD m ++ L
  lt : m < 16 ^ (8 - L.length)
  len : L.length ≤ 7
theorem HInv.start {n : Nat} (h : n < 4294967296) : HInv n [] n := by
  have e : (16 : Nat) ^ (8 - ([] : List UInt8).length) = 4294967296 := by decide
  exact ⟨by simp, by rw [e]; exact h, by simp⟩
theorem HInv.next {n m : Nat} {L : List UInt8} (h : HInv n L m) (hm : ¬ m < 16) : HInv n (hexDg (m % 16) :: L) (m / 16) := by
  have hl : L.length ≤ 6 := by
    rcases Nat.lt_or_ge 6 L.length with g | g
    · exfalso
      have e : L.length = 7 := by have := h.len; omega
      have := h.lt
      rw [e] at this
      omega
    · exact g
  refine ⟨?_, ?_, by simp; omega⟩
  · rw [h.eq, hexD_step hm]; simp
  · have e : 8 - L.length = (8 - (hexDg (m % 16) :: L).length) + 1 := by simp; omega
    have := h.lt
    rw [e, Nat.pow_succ] at this
    exact Nat.div_lt_of_lt_mul (by omega)
theorem HInv.done {n m : Nat} {L : List UInt8} (h : HInv n L m) (hm : m < 16) : hexD n = hexDg m :: L := by rw [h.eq, hexD_small hm]; rfl
/-- the buffer: the last cells hold the digits told so far -/
structure HSt (w wr : World) (T : TypeId) (p : Nat) (L : List UInt8) : Prop where
  bel : Bel w wr
  blk : ∃ cs, wr.heap[w.heap.size]? = some (.cells cs T (0, 0)) ∧ cs.size = 65 ∧ ∀ j, j < L.length → cs[p + j]? = some (.int .u8 ((L.getD j 0).toNat : Int))
theorem heap_setAt {w : World} {b a : Nat} {cs : Array Value} {u : Value} {T : TypeId} (h : w.heap[b]? = some (.cells cs T (0, 0))) : (w.setCell ⟨b, a, none⟩ u).heap[b]? = some (.cells (cs.setIfInBounds a u) T (0, 0)) := by
  show (w.heap.modify b _)[b]? = _
  rw [Array.getElem?_modify, if_pos rfl, h]
  rfl
theorem HSt.cell {w wr : World} {T : TypeId} {p : Nat} {L : List UInt8} (h : HSt w wr T p L) {j : Nat} (hj : j < 65) : ∃ v, wr.cell? ⟨w.heap.size, j, none⟩ = some v := by
  obtain ⟨cs, h1, h2, _⟩ := h.blk
  refine ⟨cs[j]'(by omega), ?_⟩
  unfold World.cell?
  simp [h1, h2, hj]
theorem HSt.thaw {w wr : World} {T : TypeId} {p : Nat} {L : List UInt8} (h : HSt w wr T p L) (j : Nat) : wr.frozen? ⟨w.heap.size, j, none⟩ = false := by
  obtain ⟨cs, h1, _⟩ := h.blk
  exact cells_free h1 j
theorem HSt.next {w wr : World} {T : TypeId} {p : Nat} {L : List UInt8} (h : HSt w wr T (p + 1) L) (hp : p < 65) (c : UInt8) : HSt w (wr.setCell ⟨w.heap.size, p, none⟩ (.int .u8 (c.toNat : Int))) T p (c :: L) := by
  obtain ⟨cs, h1, h2, h3⟩ := h.blk
  refine ⟨h.bel.setCell (Nat.le_refl _) _, _, heap_setAt h1, by simpa using h2, fun j hj => ?_⟩
  cases j with
  | zero => simp [h2, hp]
  | succ j =>
    have := h3 j (by simpa using hj)
    rw [show p + 1 + j = p + (j + 1) by omega] at this
    rw [Array.getElem?_setIfInBounds_ne (by omega), this]
    rfl
theorem HSt.bytes {w wr : World} {T : TypeId} {p : Nat} {L : List UInt8} (h : HSt w wr T p L) : ∀ j (hj : j < L.length), wr.cell? ((⟨w.heap.size, p, none⟩ : Addr).add j) = some (.int .u8 (L[j].toNat : Int)) := by
  intro j hj
  obtain ⟨cs, h1, h2, h3⟩ := h.blk
  have := h3 j hj
  rw [List.getD_eq_getElem?_getD, List.getElem?_eq_getElem hj] at this
  unfold Addr.add
  split
  · rename_i e; subst e; unfold World.cell?; simpa [h1] using this
  · unfold World.cell?; simpa [h1] using this
/-- the last 'k' digits -/
def hexK : Nat → Nat → List UInt8
  | 0, _ => []
  | k + 1, n => hexK k (n / 16) ++ [hexDg (n % 16)]
theorem hexK_len : ∀ k n, (hexK k n).length = k
  | 0, _ => rfl
  | k + 1, n => by simp [hexK, hexK_len k]
theorem hexK_zero : ∀ k, hexK k 0 = List.replicate k 48
  | 0 => rfl
  | k + 1 => by
    rw [hexK, hexK_zero k, List.replicate_succ']
    rfl
theorem hexD_len {n : Nat} : ∀ k, 1 ≤ k → n < 16 ^ k → (hexD n).length ≤ k := by
  intro k
  induction k generalizing n with
  | zero => intro h; omega
  | succ k ih =>
    intro _ hn
    by_cases h : n < 16
    · rw [hexD_small h]; simp
    · rw [hexD_step h, List.length_append, List.length_singleton]
      have hk : 1 ≤ k := by
        rcases Nat.eq_zero_or_pos k with e | e
        · subst e; simp at hn; omega
        · exact e
      have := ih (n := n / 16) hk (by rw [Nat.pow_succ] at hn; omega)
      omega
theorem hex_pad {n : Nat} : ∀ k, 1 ≤ k → n < 16 ^ k → List.replicate (k - (hexD n).length) 48 ++ hexD n = hexK k n := by
  intro k
  induction k generalizing n with
  | zero => intro h; omega
  | succ k ih =>
    intro _ hn
    by_cases h : n < 16
    · rw [hexD_small h, hexK, Nat.mod_eq_of_lt h, Nat.div_eq_of_lt h, hexK_zero]
      simp
    · have hk : 1 ≤ k := by
        rcases Nat.eq_zero_or_pos k with e | e
        · subst e; simp at hn; omega
        · exact e
      rw [hexD_step h, hexK, ← ih (n := n / 16) hk (by rw [Nat.pow_succ] at hn; omega), List.length_append, List.length_singleton, Nat.add_sub_add_right, List.append_assoc]
theorem repl48 : ∀ c, Lib.repeatL [48] c = List.replicate c 48
  | 0 => rfl
  | c + 1 => by rw [Lib.repeatL, repl48 c, List.replicate_succ]; rfl
abbrev hex8 (n : Nat) : List UInt8 := hexK 8 n
theorem hexK_next (N j s : Nat) : hexK (j + 1) (N / 2 ^ s) = hexK j (N / 2 ^ (s + 4)) ++ [hexDg (N / 2 ^ s % 16)] := by
  rw [hexK, Nat.div_div_eq_div_mul, show 2 ^ s * 16 = 2 ^ (s + 4) by rw [Nat.pow_add]]
end Go.Fl
