/-
  HOW WORDS STAND TO EACH OTHER: the order of two words that are no not-a-numbers is that of their signed values. (No program here.)
-/
import Derived.Test.YtianaalokclklaaDoorFw
set_option linter.unusedVariables false
set_option linter.unusedSimpArgs false
namespace Go.Fl
open Go Ieee

def ng (f : Format) (X : Nat) : Bool := X / f.signWeight % 2 == 1
def rg (f : Format) (X : Nat) : Nat := X % f.signWeight
/-- the signed value, in units of the least place; an infinity stands above all numbers -/
def sv (f : Format) (X : Nat) : Int := if ng f X then -(rv f (rg f X) : Int) else (rv f (rg f X) : Int)

theorem binade_le_inf (f : Format) (h : 1 ≤ f.exponentBits) : f.binade ≤ f.infRung := by
  unfold Format.infRung
  have : 2 ^ 1 ≤ 2 ^ f.exponentBits := two_pow_le h
  exact Nat.le_mul_of_pos_left _ (by omega)

theorem rg_lt (f : Format) (X : Nat) : rg f X < f.signWeight := Nat.mod_lt _ (signWeight_pos f)

theorem read_self (f : Format) (X : Nat) : f.read X = f.read (f.word (ng f X) (rg f X)) := by
  rw [read_word f _ (rg_lt f X)]
  rfl

theorem read_fin' (f : Format) {X : Nat} (h : rg f X < f.infRung) :
    ∃ m e, f.read X = .number (ng f X) m e ∧ f.leastPlace ≤ e ∧ m * 2 ^ (e - f.leastPlace).toNat = rv f (rg f X) ∧ m < 2 * f.binade := by
  obtain ⟨m, e, h1, h2, h3, h4⟩ := read_fin f (ng f X) h
  refine ⟨m, e, ?_, h2, h3, h4⟩
  rw [← h1]; exact read_self f X

theorem read_inf' (f : Format) (he : 1 ≤ f.exponentBits) {X : Nat} (h : rg f X = f.infRung) : f.read X = .infinity (ng f X) := by
  have hb := binade_le_inf f he
  have h0 := read_self f X
  rw [h0, h, read_word f _ f.infRung_lt, if_neg (by omega), if_neg (by omega), if_pos rfl]

theorem read_nan' (f : Format) (he : 1 ≤ f.exponentBits) {X : Nat} (h : f.infRung < rg f X) : ∃ s t, f.read X = .nan s t := by
  have hb := binade_le_inf f he
  have h0 := read_self f X
  rw [h0, read_word f _ (rg_lt f X), if_neg (by omega), if_neg (by omega), if_neg (by omega)]
  exact ⟨_, _, rfl⟩

theorem exb (k : FloatKind) : 1 ≤ k.format.exponentBits := by cases k <;> decide

theorem isn_rg (k : FloatKind) (X : Nat) : isn k X = decide (k.format.infRung < rg k.format X) := by
  rcases Nat.lt_trichotomy (rg k.format X) k.format.infRung with h | h | h
  · obtain ⟨m, e, h1, _⟩ := read_fin' k.format h
    unfold isn FloatKind.decode
    rw [h1, decide_eq_false (by omega)]; rfl
  · unfold isn FloatKind.decode
    rw [read_inf' k.format (exb k) h, decide_eq_false (by omega)]; rfl
  · obtain ⟨s, t, h1⟩ := read_nan' k.format (exb k) h
    unfold isn FloatKind.decode
    rw [h1, decide_eq_true h]; rfl

theorem compare_mul {a b c : Int} (hc : 0 < c) : compare (a * c) (b * c) = compare a b := by
  rcases Int.lt_trichotomy a b with h | h | h
  · have := Int.mul_lt_mul_of_pos_right h hc
    rw [Int.compare_eq_lt.2 h, Int.compare_eq_lt.2 this]
  · subst h; simp
  · have := Int.mul_lt_mul_of_pos_right h hc
    rw [Int.compare_eq_gt.2 h, Int.compare_eq_gt.2 this]

theorem signed_mul (s : Bool) (m i j : Nat) : signed s m i * (2 ^ j : Nat) = signed s m (i + j) := by
  unfold signed
  rw [Nat.shiftLeft_eq, Nat.shiftLeft_eq, Nat.pow_add]
  cases s
  · simp [Int.mul_assoc]
  · simp [Int.mul_assoc, Int.neg_mul]

theorem order_sv (f : Format) (he : 1 ≤ f.exponentBits) {X Y : Nat} (hX : rg f X ≤ f.infRung) (hY : rg f Y ≤ f.infRung) :
    f.order X Y = some (compare (sv f X) (sv f Y)) := by
  have pos : ∀ r, r < f.infRung → rv f r < rv f f.infRung := fun r h => rv_lt f h
  unfold Format.order
  rcases Nat.eq_or_lt_of_le hX with hX | hX
  · rw [read_inf' f he hX]
    rcases Nat.eq_or_lt_of_le hY with hY | hY
    · rw [read_inf' f he hY]
      unfold sv Datum.order
      rw [hX, hY]
      have h0 : 0 < rv f f.infRung := by have := pos 0 (by have := binade_le_inf f he; have := binade_pos f; omega); omega
      cases ng f X <;> cases ng f Y <;> simp only [Bool.false_eq_true, if_false, if_true]
      · simp
      · rw [Int.compare_eq_gt.2 (by omega)]; rfl
      · rw [Int.compare_eq_lt.2 (by omega)]; rfl
      · simp
    · obtain ⟨m, e, h1, _, h3, _⟩ := read_fin' f hY
      rw [h1]
      have hp := pos _ hY
      unfold sv
      rw [hX]
      cases hx : ng f X <;> cases hy : ng f Y <;> simp only [Datum.order, Bool.false_eq_true, if_false, if_true, Option.some.injEq]
      · rw [Int.compare_eq_gt.2 (by omega)]
      · rw [Int.compare_eq_gt.2 (by omega)]
      · rw [Int.compare_eq_lt.2 (by omega)]
      · rw [Int.compare_eq_lt.2 (by omega)]
  · obtain ⟨m, i, h1, h2, h3, _⟩ := read_fin' f hX
    rw [h1]
    rcases Nat.eq_or_lt_of_le hY with hY | hY
    · rw [read_inf' f he hY]
      have hp := pos _ hX
      unfold sv
      rw [hY]
      cases hx : ng f X <;> cases hy : ng f Y <;> simp only [Datum.order, Bool.false_eq_true, if_false, if_true, Option.some.injEq]
      · rw [Int.compare_eq_lt.2 (by omega)]
      · rw [Int.compare_eq_gt.2 (by omega)]
      · rw [Int.compare_eq_lt.2 (by omega)]
      · rw [Int.compare_eq_gt.2 (by omega)]
    · obtain ⟨n, j, g1, g2, g3, _⟩ := read_fin' f hY
      rw [g1]
      simp only [Datum.order, Option.some.injEq]
      have e1 : sv f X = signed (ng f X) m (i - min i j).toNat * (2 ^ (min i j - f.leastPlace).toNat : Nat) := by
        rw [signed_mul]
        have : (i - min i j).toNat + (min i j - f.leastPlace).toNat = (i - f.leastPlace).toNat := by omega
        rw [this]
        unfold sv signed
        rw [Nat.shiftLeft_eq, h3]
      have e2 : sv f Y = signed (ng f Y) n (j - min i j).toNat * (2 ^ (min i j - f.leastPlace).toNat : Nat) := by
        rw [signed_mul]
        have : (j - min i j).toNat + (min i j - f.leastPlace).toNat = (j - f.leastPlace).toNat := by omega
        rw [this]
        unfold sv signed
        rw [Nat.shiftLeft_eq, g3]
      rw [e1, e2, compare_mul (by have := Nat.two_pow_pos (min i j - f.leastPlace).toNat; omega)]

/-- the comparisons, as numbers -/
theorem order_cases (k : FloatKind) (X Y : Nat) : k.format.order X Y = if isn k X = true ∨ isn k Y = true then none else some (compare (sv k.format X) (sv k.format Y)) := by
  by_cases h1 : isn k X = true
  · rw [if_pos (.inl h1), order_nan_left h1]
  · by_cases h2 : isn k Y = true
    · rw [if_pos (.inr h2), order_nan_right h2]
    · rw [if_neg (by simp [h1, h2])]
      rw [isn_rg] at h1 h2
      simp only [decide_eq_true_eq, Nat.not_lt] at h1 h2
      exact order_sv k.format (exb k) h1 h2

theorem feq_iff (k : FloatKind) (X Y : Nat) : feq k X Y = true ↔ isn k X = false ∧ isn k Y = false ∧ sv k.format X = sv k.format Y := by
  unfold feq; rw [order_cases]
  cases isn k X <;> cases isn k Y <;> simp
theorem fne_iff (k : FloatKind) (X Y : Nat) : fne k X Y = true ↔ isn k X = true ∨ isn k Y = true ∨ sv k.format X ≠ sv k.format Y := by
  unfold fne; rw [order_cases]
  cases isn k X <;> cases isn k Y <;> simp
theorem flt_iff (k : FloatKind) (X Y : Nat) : flt k X Y = true ↔ isn k X = false ∧ isn k Y = false ∧ sv k.format X < sv k.format Y := by
  unfold flt; rw [order_cases]
  cases isn k X <;> cases isn k Y <;> simp [Int.compare_eq_lt]
theorem fgt_iff (k : FloatKind) (X Y : Nat) : fgt k X Y = true ↔ isn k X = false ∧ isn k Y = false ∧ sv k.format Y < sv k.format X := by
  unfold fgt; rw [order_cases]
  cases isn k X <;> cases isn k Y <;> simp [Int.compare_eq_gt]
theorem fle_iff (k : FloatKind) (X Y : Nat) : fle k X Y = true ↔ isn k X = false ∧ isn k Y = false ∧ sv k.format X ≤ sv k.format Y := by
  unfold fle; rw [order_cases]
  cases isn k X <;> cases isn k Y <;> simp [Int.compare_eq_lt]
  omega
theorem fge_iff (k : FloatKind) (X Y : Nat) : fge k X Y = true ↔ isn k X = false ∧ isn k Y = false ∧ sv k.format Y ≤ sv k.format X := by
  unfold fge; rw [order_cases]
  cases isn k X <;> cases isn k Y <;> simp [Int.compare_eq_gt]
  omega

end Go.Fl
