/-
  CANONICAL WORDS: when two are one; when their values are one. (No program here.)
-/
import Derived.Test.YtianaalokclklaaDoorOrd
set_option linter.unusedVariables false
set_option linter.unusedSimpArgs false
namespace Go.Fl
open Go Ieee

def Can (k : FloatKind) (X : Nat) : Prop := X < 2 ^ k.format.width ∧ cn k X = X

theorem cn_lt {k : FloatKind} {b : Nat} (h : b < 2 ^ k.format.width) : cn k b < 2 ^ k.format.width := by
  unfold cn
  split
  · exact qn_lt k
  · exact h

theorem Is.can {k : FloatKind} {b X : Nat} (h : Is k b X) : Can k X := by
  refine ⟨?_, ?_⟩
  · rw [← h.2]; exact cn_lt h.1
  · rw [← h.2]; exact cn_cn k b

theorem Can.nan {k : FloatKind} {X : Nat} (h : Can k X) (hn : isn k X = true) : X = qn k := by
  rw [← h.2]; exact cn_of hn

theorem fop_can (op : BinOp) (k : FloatKind) (X Y : Nat) : Can k (fop op k X Y) := by
  unfold fop
  cases h : floatBits op k X Y with
  | none => exact ⟨qn_lt k, by rw [Option.getD_none, cn_of (isn_qn k)]⟩
  | some r => exact ⟨floatBits_lt h, cn_of_not (floatBits_not_nan h)⟩

theorem word_of {k : FloatKind} {X : Nat} (h : X < 2 ^ k.format.width) : X = k.format.word (ng k.format X) (rg k.format X) := word_parts k.format h

theorem rv_zero (f : Format) : rv f 0 = 0 := by
  have := binade_pos f
  simp [rv, this]

theorem rv_pos (f : Format) {r : Nat} (h : 0 < r) : 0 < rv f r := by
  have := rv_lt f h
  omega

theorem sv_zero_iff (f : Format) (X : Nat) : sv f X = 0 ↔ rg f X = 0 := by
  unfold sv
  constructor
  · intro h
    rcases Nat.eq_zero_or_pos (rg f X) with g | g
    · exact g
    · have := rv_pos f g
      split at h <;> omega
  · intro h
    rw [h, rv_zero]
    simp

theorem sv_eq (k : FloatKind) {X Y : Nat} (hX : X < 2 ^ k.format.width) (hY : Y < 2 ^ k.format.width) (h : sv k.format X = sv k.format Y) :
    X = Y ∨ (rg k.format X = 0 ∧ rg k.format Y = 0) := by
  by_cases h0 : rg k.format X = 0
  · exact .inr ⟨h0, (sv_zero_iff _ _).1 (by rw [← h]; exact (sv_zero_iff _ _).2 h0)⟩
  · have h1 : rg k.format Y ≠ 0 := fun g => h0 ((sv_zero_iff _ _).1 (by rw [h]; exact (sv_zero_iff _ _).2 g))
    left
    have p1 := rv_pos k.format (show 0 < rg k.format X by omega)
    have p2 := rv_pos k.format (show 0 < rg k.format Y by omega)
    unfold sv at h
    rw [word_of hX, word_of hY]
    cases hx : ng k.format X <;> cases hy : ng k.format Y <;> rw [hx, hy] at h <;> simp only [Bool.false_eq_true, if_false, if_true] at h
    · rw [eq_of_rv_eq k.format (show rv k.format (rg k.format X) = rv k.format (rg k.format Y) by omega)]
    · omega
    · omega
    · rw [eq_of_rv_eq k.format (show rv k.format (rg k.format X) = rv k.format (rg k.format Y) by omega)]

theorem isn_zero : isn .f64 0 = false := by decide +kernel
theorem sv_of_zero (f : Format) : sv f 0 = 0 := by
  rw [sv_zero_iff]; exact Nat.zero_mod _

theorem zero_words {X : Nat} (h : X < 2 ^ FloatKind.f64.format.width) (h0 : rg FloatKind.f64.format X = 0) : X = 0 ∨ X = 9223372036854775808 := by
  have := word_of h
  rw [h0] at this
  cases hg : ng FloatKind.f64.format X
  · left; rw [this, hg]; rfl
  · right; rw [this, hg]; decide +kernel

theorem one_by_zero : fgt .f64 (fop .quo .f64 4607182418800017408 0) 0 = true := by decide +kernel
theorem one_by_minus : fgt .f64 (fop .quo .f64 4607182418800017408 9223372036854775808) 0 = false := by decide +kernel

theorem sf1 {k : FloatKind} {A B : Nat} (hA : Can k A) (hB : Can k B) (h : fne k A A = true) : fne k B B = (A == B) := by
  have ha : isn k A = true := by
    have := (fne_iff k A A).1 h
    simpa using this
  rw [Bool.eq_iff_iff, fne_iff, beq_iff_eq]
  constructor
  · intro g
    have hb : isn k B = true := by simpa using g
    rw [hA.nan ha, hB.nan hb]
  · intro g
    subst g
    exact .inl ha

theorem sf2 {k : FloatKind} {A B : Nat} (h : ¬ fne k A A = true) (g : fne k B B = true) : false = (A == B) := by
  symm
  rw [beq_eq_false_iff_ne]
  intro e
  subst e
  exact h g

section
variable {A B : Nat} (hA : Can .f64 A) (hB : Can .f64 B)
include hA hB

theorem sf3 (h1 : feq .f64 A 0 = true) (h2 : feq .f64 B 0 = true) :
    (fgt .f64 (fop .quo .f64 4607182418800017408 A) 0 == fgt .f64 (fop .quo .f64 4607182418800017408 B) 0) = (A == B) := by
  have z1 := (feq_iff .f64 A 0).1 h1
  have z2 := (feq_iff .f64 B 0).1 h2
  have a0 := zero_words hA.1 ((sv_zero_iff _ _).1 (by rw [z1.2.2]; exact sv_of_zero _))
  have b0 := zero_words hB.1 ((sv_zero_iff _ _).1 (by rw [z2.2.2]; exact sv_of_zero _))
  rcases a0 with rfl | rfl <;> rcases b0 with rfl | rfl <;> simp only [one_by_zero, one_by_minus] <;> decide

theorem sf4 (h1 : ¬ fne .f64 A A = true) (h2 : fne .f64 B B = false) (hz : ¬ (feq .f64 A 0 = true ∧ feq .f64 B 0 = true)) : feq .f64 A B = (A == B) := by
  have n1 : isn .f64 A = false := by
    cases h : isn .f64 A
    · rfl
    · exact absurd ((fne_iff .f64 A A).2 (.inl h)) h1
  have n2 : isn .f64 B = false := by
    cases h : isn .f64 B
    · rfl
    · rw [(fne_iff .f64 B B).2 (.inl h)] at h2; cases h2
  rw [Bool.eq_iff_iff, feq_iff, beq_iff_eq]
  constructor
  · rintro ⟨_, _, h⟩
    rcases sv_eq .f64 hA.1 hB.1 h with g | ⟨g1, g2⟩
    · exact g
    · exfalso
      refine hz ⟨(feq_iff _ _ _).2 ⟨n1, isn_zero, ?_⟩, (feq_iff _ _ _).2 ⟨n2, isn_zero, ?_⟩⟩
      · rw [(sv_zero_iff _ _).2 g1, sv_of_zero]
      · rw [(sv_zero_iff _ _).2 g2, sv_of_zero]
  · rintro rfl
    exact ⟨n1, n1, rfl⟩

theorem sf5 (h1 : ¬ fne .f64 A A = true) (h2 : fne .f64 B B = false) (_h3 : feq .f64 A 0 = true) (h4 : feq .f64 B 0 = false) : feq .f64 A B = (A == B) :=
  sf4 hA hB h1 h2 (by simp [h4])
theorem sf6 (h1 : ¬ fne .f64 A A = true) (h2 : fne .f64 B B = false) (h3 : ¬ feq .f64 A 0 = true) : feq .f64 A B = (A == B) :=
  sf4 hA hB h1 h2 (by simp [h3])
end

theorem ret_bool {a b : Bool} (h : a = b) : Ending.returned (.bool a) = .returned (.bool b) := by rw [h]

end Go.Fl
