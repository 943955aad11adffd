/-
  PLAIN LAWS: a text cut at each comma. (No program here.)
-/
import Derived.Test.YtianaalokclklaaDoorVd
import Derived.Lib.SplitLaws
set_option linter.unusedVariables false
set_option linter.unusedSimpArgs false
namespace Go.Fl
open Go Go.RowKit

/-- the pieces, of which the first begins with 'cur' -/
def pc (c : UInt8) (cur : List UInt8) : List UInt8 → List (List UInt8)
  | [] => [cur]
  | b :: l => if b = c then cur :: pc c [] l else pc c (cur ++ [b]) l
theorem pc_ne (c : UInt8) : ∀ (l cur : List UInt8), pc c cur l ≠ []
  | [], cur => by simp [pc]
  | b :: l, cur => by
    rw [pc]
    split
    · simp
    · exact pc_ne c l _
/-- what follows of the first place of the byte -/
theorem pc_index (c : UInt8) : ∀ (l cur : List UInt8), (Lib.index l [c] = -1 → pc c cur l = [cur ++ l]) ∧ (∀ i : Nat, Lib.index l [c] = i → pc c cur l = (cur ++ l.take i) :: pc c [] (l.drop (i + 1)) ∧ i < l.length)
  | [], cur => by
    refine ⟨fun _ => by simp [pc], fun i h => ?_⟩
    simp [Lib.index] at h
  | b :: l, cur => by
    by_cases hb : b = c
    · subst hb
      have hix : Lib.index (b :: l) [b] = ((0 : Nat) : Int) := by rw [Lib.index]; simp [List.isPrefixOf]
      refine ⟨fun h => by rw [hix] at h; omega, fun i h => ?_⟩
      rw [hix] at h
      obtain rfl : i = 0 := by omega
      simp [pc]
    · have hp : ([c] : List UInt8).isPrefixOf (b :: l) = false := by simp [List.isPrefixOf, Ne.symm hb]
      have hix : Lib.index (b :: l) [c] = if Lib.index l [c] == -1 then -1 else Lib.index l [c] + 1 := by rw [Lib.index, hp]; simp
      obtain ⟨h1, h2⟩ := pc_index c l (cur ++ [b])
      have hge := Lib.index_ge l [c]
      refine ⟨fun h => ?_, fun i h => ?_⟩
      · rw [hix] at h
        by_cases hm : Lib.index l [c] = -1
        · rw [pc, if_neg hb, h1 hm]; simp
        · rw [if_neg (by simpa using hm)] at h; omega
      · rw [hix] at h
        by_cases hm : Lib.index l [c] = -1
        · rw [if_pos (by simpa using hm)] at h; omega
        · rw [if_neg (by simpa using hm)] at h
          obtain ⟨j, rfl⟩ : ∃ j, i = j + 1 := ⟨i - 1, by omega⟩
          obtain ⟨g1, g2⟩ := h2 j (by omega)
          refine ⟨?_, by simp; omega⟩
          rw [pc, if_neg hb, g1]
          simp
theorem pc_split (c : UInt8) : ∀ (n : Nat) (l : List UInt8), l.length ≤ n → Lib.splitK [c] 0 (Lib.count l [c]) l = pc c [] l
  | 0, l, h => by
    obtain rfl := List.length_eq_zero_iff.1 (Nat.le_zero.1 h)
    rw [Lib.count_miss (by simp [Lib.index])]
    simp [Lib.splitK, pc]
  | n + 1, l, h => by
    obtain ⟨h1, h2⟩ := pc_index c l []
    by_cases hm : Lib.index l [c] = -1
    · rw [Lib.count_miss hm, h1 hm]; simp [Lib.splitK]
    · have hge := Lib.index_ge l [c]
      obtain ⟨i, hi⟩ : ∃ i : Nat, Lib.index l [c] = i := ⟨(Lib.index l [c]).toNat, by omega⟩
      obtain ⟨g1, g2⟩ := h2 i hi
      have e1 : ([c] : List UInt8).length = 1 := rfl
      rw [Lib.count_hit (by simp) hi, g1, Nat.add_comm 1, Lib.splitK, if_neg (by simpa using hm), hi, e1]
      have e2 : ((i : Nat) : Int).toNat = i := by omega
      rw [e2, pc_split c n (l.drop (i + 1)) (by rw [List.length_drop]; omega)]
      simp
/-- the pieces -/
abbrev pcs (l : List UInt8) : List (List UInt8) := pc 44 [] l
theorem pcs_splitB (l : List UInt8) : (Lib.splitB ⟨#[44]⟩ 0 (Lib.countB ⟨l.toArray⟩ ⟨#[44]⟩) ⟨l.toArray⟩) = (pcs l).map fun x => ⟨x.toArray⟩ := by
  have h := Lib.splitB_data ⟨#[44]⟩ 0 (Lib.countB ⟨l.toArray⟩ ⟨#[44]⟩) ⟨l.toArray⟩
  have e : Lib.splitK (⟨#[44]⟩ : ByteArray).data.toList 0 (Lib.countB ⟨l.toArray⟩ ⟨#[44]⟩) (⟨l.toArray⟩ : ByteArray).data.toList = pcs l := pc_split 44 l.length l (Nat.le_refl _)
  rw [e] at h
  rw [← h, List.map_map]
  conv => lhs; rw [← List.map_id (Lib.splitB _ _ _ _)]
  refine List.map_congr_left fun x _ => ?_
  obtain ⟨⟨y⟩⟩ := x
  rfl
theorem pcs_count (l : List UInt8) : Lib.countB ⟨l.toArray⟩ ⟨#[44]⟩ + 1 = (pcs l).length := by
  have h := Lib.splitB_all ⟨#[44]⟩ (by decide) 0 _ ⟨l.toArray⟩ rfl
  rw [pcs_splitB, List.length_map] at h
  exact h.symm
theorem pc_len (c : UInt8) : ∀ (l cur : List UInt8), (pc c cur l).length ≤ l.length + 1
  | [], cur => by simp [pc]
  | b :: l, cur => by
    rw [pc]
    split
    · have := pc_len c l []; simp; omega
    · have := pc_len c l (cur ++ [b]); simp; omega
theorem pc_sub (c : UInt8) : ∀ (l cur : List UInt8), ∀ x ∈ pc c cur l, x.length ≤ cur.length + l.length
  | [], cur, x, h => by
    simp [pc] at h; subst h; simp
  | b :: l, cur, x, h => by
    rw [pc] at h
    split at h
    · rcases List.mem_cons.1 h with rfl | h
      · omega
      · have := pc_sub c l [] x h; simp at this ⊢; omega
    · have := pc_sub c l _ x h; simp at this ⊢; omega
/-- the loop of the cut: 'm' pieces are laid, the next begins at 'f', the eye is at 'k' -/
structure CInv (l : List UInt8) (m f k : Nat) : Prop where
  fk : f ≤ k
  kn : k ≤ l.length
  eq : (pcs l).drop m = pc 44 ((l.take k).drop f) (l.drop k)
theorem CInv.start (l : List UInt8) : CInv l 0 0 0 := ⟨Nat.le_refl _, Nat.zero_le _, by simp⟩
theorem drop_cons {α : Type} {P r : List α} {m : Nat} {x : α} (h : P.drop m = x :: r) : m < P.length ∧ P[m]? = some x ∧ P.drop (m + 1) = r := by
  have h1 : m < P.length := by
    rcases Nat.lt_or_ge m P.length with g | g
    · exact g
    · rw [List.drop_eq_nil_of_le g] at h; cases h
  refine ⟨h1, ?_, ?_⟩
  · rw [← List.head?_drop, h]; rfl
  · rw [← List.tail_drop, h]; rfl
theorem cur_len {l : List UInt8} {f k : Nat} (hk : k ≤ l.length) : ((l.take k).drop f).length = k - f := by
  rw [List.length_drop, List.length_take]; omega
theorem CInv.hit {l : List UInt8} {m f k : Nat} (h : CInv l m f k) (hk : k < l.length) (hc : l.getD k 0 = 44) : m < (pcs l).length ∧ (pcs l)[m]? = some ((l.take k).drop f) ∧ CInv l (m + 1) (k + 1) (k + 1) := by
  have e := h.eq
  rw [List.drop_eq_getElem_cons hk, pc, if_pos (by rw [List.getD_eq_getElem?_getD, List.getElem?_eq_getElem hk] at hc; exact hc)] at e
  obtain ⟨h1, h2, h3⟩ := drop_cons e
  refine ⟨h1, h2, Nat.le_refl _, hk, ?_⟩
  have e9 : (l.take (k + 1)).drop (k + 1) = [] := List.drop_eq_nil_of_le (by rw [List.length_take]; omega)
  rw [h3, e9]
theorem CInv.miss {l : List UInt8} {m f k : Nat} (h : CInv l m f k) (hk : k < l.length) (hc : l.getD k 0 ≠ 44) : CInv l m f (k + 1) := by
  have e := h.eq
  rw [List.drop_eq_getElem_cons hk, pc, if_neg (by rw [List.getD_eq_getElem?_getD, List.getElem?_eq_getElem hk] at hc; exact hc)] at e
  refine ⟨by have := h.fk; omega, hk, ?_⟩
  rw [e, List.take_add_one, List.getElem?_eq_getElem hk, List.drop_append_of_le_length (by rw [List.length_take]; have := h.fk; omega)]
  rfl
theorem CInv.last {l : List UInt8} {m f k : Nat} (h : CInv l m f k) (hk : k = l.length) : m + 1 = (pcs l).length ∧ (pcs l)[m]? = some ((l.take k).drop f) := by
  have e := h.eq
  have e9 : l.drop k = [] := List.drop_eq_nil_of_le (by omega)
  rw [e9, pc] at e
  obtain ⟨h1, h2, h3⟩ := drop_cons e
  refine ⟨?_, h2⟩
  have := congrArg List.length h3
  rw [List.length_drop] at this
  simp at this
  omega
/-- the reading of a list -/
def noneB (l : List UInt8) : Bool := l == [110, 111, 110, 101]
def pieceN (l : List UInt8) : Nat → List UInt8 := fun i => (pcs l).getD i []
def readB (l : List UInt8) : Bool := noneB l || (decide ((pcs l).length ≤ 64) && allB (fun i => decB (pieceN l i)) (pcs l).length)
def readN (l : List UInt8) : Nat := if readB l && !noneB l then (pcs l).length else 0
abbrev readZ (l : List UInt8) : Nat → Int := fun i => valS (pieceN l i)
theorem piece_len (l : List UInt8) (i : Nat) : (pieceN l i).length ≤ l.length := by
  unfold pieceN
  rw [List.getD_eq_getElem?_getD]
  cases h : (pcs l)[i]? with
  | none => simp
  | some x =>
    have := pc_sub 44 l [] x (List.mem_of_getElem? h)
    simpa using this
theorem piece_at {l : List UInt8} {i : Nat} {x : List UInt8} (h : (pcs l)[i]? = some x) : pieceN l i = x := by
  unfold pieceN; rw [List.getD_eq_getElem?_getD, h]; rfl
end Go.Fl
