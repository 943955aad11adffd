/-
  FLOATS AS WORDS, ALL NOT-A-NUMBERS TAKEN AS ONE. What the operations of the model give, whatever the tape answers, said of canonical words: plain functions of words. (No program here.)
-/
import Derived.WalkKit
import Derived.WalkSpells
import Derived.WalkLawsBesides
import Derived.Deep.Draws
import Derived.Laws.FloatArith
import Derived.Laws.ComplexArith
set_option linter.unusedVariables false
set_option linter.unusedSimpArgs false
namespace Go.Fl
open Go

/-- the one word that stands for all not-a-numbers -/
def qn : FloatKind → Nat
  | .f32 => 2143289344
  | .f64 => 9221120237041090560

def isn (k : FloatKind) (b : Nat) : Bool := (k.decode b).isNaN

/-- the canonical word -/
def cn (k : FloatKind) (b : Nat) : Nat := if isn k b then qn k else b

/-- 'b' is a word whose canonical word is 'X' -/
def Is (k : FloatKind) (b X : Nat) : Prop := b < 2 ^ k.format.width ∧ cn k b = X

/-- the four operations on canonical words -/
def fop (op : BinOp) (k : FloatKind) (X Y : Nat) : Nat := (floatBits op k X Y).getD (qn k)

theorem isn_qn (k : FloatKind) : isn k (qn k) = true := by cases k <;> decide +kernel

theorem qn_lt (k : FloatKind) : qn k < 2 ^ k.format.width := by cases k <;> decide +kernel

theorem isn_cn (k : FloatKind) (b : Nat) : isn k (cn k b) = isn k b := by
  unfold cn
  by_cases h : isn k b = true
  · rw [if_pos h, isn_qn, h]
  · rw [if_neg h]

theorem cn_of_not {k : FloatKind} {b : Nat} (h : isn k b = false) : cn k b = b := by
  unfold cn; rw [if_neg (by simp [h])]

theorem cn_of {k : FloatKind} {b : Nat} (h : isn k b = true) : cn k b = qn k := by
  unfold cn; rw [if_pos h]

theorem cn_cn (k : FloatKind) (b : Nat) : cn k (cn k b) = cn k b := by
  by_cases h : isn k b = true
  · rw [cn_of h, cn_of (isn_qn k)]
  · rw [cn_of_not (b := b) (by simpa using h), cn_of_not (b := b) (by simpa using h)]

theorem isn_read {k : FloatKind} {b : Nat} (h : isn k b = true) : ∃ s f, k.format.read b = .nan s f := by
  unfold isn FloatKind.decode at h
  cases hd : k.format.read b with
  | number s m e => rw [hd] at h; simp [Ieee.Datum.isNaN] at h
  | infinity s => rw [hd] at h; simp [Ieee.Datum.isNaN] at h
  | nan s f => exact ⟨s, f, rfl⟩

theorem isn_iff (k : FloatKind) (b : Nat) : isn k b = true ↔ ∃ s f, k.format.read b = .nan s f := by
  refine ⟨isn_read, ?_⟩
  rintro ⟨s, f, h⟩
  unfold isn FloatKind.decode
  rw [h]; rfl

theorem floatBits_nan_left {op : BinOp} {k : FloatKind} {x y : Nat} (h : isn k x = true) : floatBits op k x y = none := by
  obtain ⟨s, f, hr⟩ := isn_read h
  unfold floatBits
  split
  · simp [Ieee.Format.add, hr, Ieee.Datum.sum]
  · simp [Ieee.Format.sub, hr, Ieee.Datum.sum]
  · simp [Ieee.Format.mul, hr, Ieee.Datum.product]
  · simp [Ieee.Format.div, hr, Ieee.Datum.quotient]
  · rfl

theorem floatBits_nan_right {op : BinOp} {k : FloatKind} {x y : Nat} (h : isn k y = true) : floatBits op k x y = none := by
  obtain ⟨s, f, hr⟩ := isn_read h
  unfold floatBits
  split
  · cases hx : k.format.read x <;> simp [Ieee.Format.add, hx, hr, Ieee.Datum.sum]
  · cases hx : k.format.read x <;> simp [Ieee.Format.sub, hx, hr, Ieee.Datum.sum, Ieee.Datum.opposite]
  · cases hx : k.format.read x <;> simp [Ieee.Format.mul, hx, hr, Ieee.Datum.product]
  · cases hx : k.format.read x <;> simp [Ieee.Format.div, hx, hr, Ieee.Datum.quotient]
  · rfl

theorem floatBits_cn (op : BinOp) (k : FloatKind) (x y : Nat) : floatBits op k (cn k x) (cn k y) = floatBits op k x y := by
  by_cases hx : isn k x = true
  · rw [floatBits_nan_left hx, floatBits_nan_left (by rw [isn_cn]; exact hx)]
  · by_cases hy : isn k y = true
    · rw [floatBits_nan_right hy, floatBits_nan_right (by rw [isn_cn]; exact hy)]
    · rw [cn_of_not (by simpa using hx), cn_of_not (by simpa using hy)]

theorem order_nan_left {k : FloatKind} {x y : Nat} (h : isn k x = true) : k.format.order x y = none := by
  obtain ⟨s, f, hr⟩ := isn_read h
  simp [Ieee.Format.order, hr, Ieee.Datum.order]

theorem order_nan_right {k : FloatKind} {x y : Nat} (h : isn k y = true) : k.format.order x y = none := by
  obtain ⟨s, f, hr⟩ := isn_read h
  cases hx : k.format.read x <;> simp [Ieee.Format.order, hx, hr, Ieee.Datum.order]

theorem order_cn (k : FloatKind) (x y : Nat) : k.format.order (cn k x) (cn k y) = k.format.order x y := by
  by_cases hx : isn k x = true
  · rw [order_nan_left hx, order_nan_left (by rw [isn_cn]; exact hx)]
  · by_cases hy : isn k y = true
    · rw [order_nan_right hy, order_nan_right (by rw [isn_cn]; exact hy)]
    · rw [cn_of_not (by simpa using hx), cn_of_not (by simpa using hy)]

/-! ### what is written is no not-a-number -/
theorem binade_pos (f : Ieee.Format) : 0 < f.binade := Nat.two_pow_pos _

theorem signWeight_pos (f : Ieee.Format) : 0 < f.signWeight := Nat.two_pow_pos _

theorem read_word (f : Ieee.Format) (neg : Bool) {rung : Nat} (h : rung < f.signWeight) :
    f.read (f.word neg rung) = if rung < f.binade then .number neg rung f.leastPlace
      else if rung < f.infRung then .number neg (f.binade + rung % f.binade) (f.leastPlace + (rung / f.binade - 1 : Nat))
      else if rung = f.infRung then .infinity neg else .nan neg (rung - f.infRung) := by
  have hs := signWeight_pos f
  have e1 : f.word neg rung % f.signWeight = rung := by
    unfold Ieee.Format.word
    split
    · rw [Nat.add_mod_left]; exact Nat.mod_eq_of_lt h
    · exact Nat.mod_eq_of_lt h
  have e2 : (f.word neg rung / f.signWeight % 2 == 1) = neg := by
    unfold Ieee.Format.word
    cases neg
    · simp [Nat.div_eq_of_lt h]
    · simp only [if_true]
      rw [Nat.add_div_left _ hs, Nat.div_eq_of_lt h]
      rfl
  unfold Ieee.Format.read
  simp only [e1, e2]

theorem read_word_le (f : Ieee.Format) (neg : Bool) {rung : Nat} (h : rung ≤ f.infRung) : (f.read (f.word neg rung)).isNaN = false := by
  rw [read_word f neg (Nat.lt_of_le_of_lt h f.infRung_lt)]
  split
  · rfl
  · split
    · rfl
    · rw [if_pos (by omega)]; rfl

theorem nearest_rung (f : Ieee.Format) (neg : Bool) (mag : Nat) (place : Int) : ∃ r, r ≤ f.infRung ∧ f.nearest neg mag place = f.word neg r := by
  unfold Ieee.Format.nearest
  dsimp only
  split
  · exact ⟨0, Nat.zero_le _, rfl⟩
  · exact ⟨_, Nat.min_le_right _ _, rfl⟩

theorem write_not_nan (f : Ieee.Format) {d : Ieee.Datum} (h : d.isNaN = false) : (f.read (f.write d)).isNaN = false := by
  cases d with
  | number s m e =>
    obtain ⟨r, hr, he⟩ := nearest_rung f s m e
    show (f.read (f.nearest s m e)).isNaN = false
    rw [he]; exact read_word_le f s hr
  | infinity s => exact read_word_le f s (Nat.le_refl _)
  | nan s t => simp [Ieee.Datum.isNaN] at h

theorem sum_not_nan {a b d : Ieee.Datum} (h : a.sum b = some d) : d.isNaN = false := by
  cases a <;> cases b <;> simp only [Ieee.Datum.sum] at h <;> (try split at h) <;> (try cases h) <;> rfl
theorem product_not_nan {a b d : Ieee.Datum} (h : a.product b = some d) : d.isNaN = false := by
  cases a <;> cases b <;> simp only [Ieee.Datum.product] at h <;> (try split at h) <;> (try cases h) <;> rfl
theorem quotient_not_nan {n : Nat} {a b d : Ieee.Datum} (h : a.quotient n b = some d) : d.isNaN = false := by
  cases a <;> cases b <;> simp only [Ieee.Datum.quotient] at h <;> (try split at h) <;> (try split at h) <;> (try cases h) <;> rfl
theorem root_not_nan {n : Nat} {a d : Ieee.Datum} (h : a.root n = some d) : d.isNaN = false := by
  cases a <;> simp only [Ieee.Datum.root] at h <;> (try split at h) <;> (try split at h) <;> (try cases h) <;> rfl

theorem map_write_not_nan {f : Ieee.Format} {o : Option Ieee.Datum} (hd : ∀ d, o = some d → d.isNaN = false) {r : Nat} (h : o.map f.write = some r) : (f.read r).isNaN = false := by
  cases o with
  | none => cases h
  | some d => cases h; exact write_not_nan f (hd d rfl)

theorem floatBits_not_nan {op : BinOp} {k : FloatKind} {x y r : Nat} (h : floatBits op k x y = some r) : isn k r = false := by
  unfold floatBits at h
  split at h
  · exact map_write_not_nan (fun d hd => sum_not_nan hd) h
  · exact map_write_not_nan (fun d hd => sum_not_nan hd) h
  · exact map_write_not_nan (fun d hd => product_not_nan hd) h
  · exact map_write_not_nan (fun d hd => quotient_not_nan hd) h
  · cases h

theorem floatBits_lt {op : BinOp} {k : FloatKind} {x y r : Nat} (h : floatBits op k x y = some r) : r < 2 ^ k.format.width := by
  unfold floatBits at h
  split at h
  · exact k.format.add_lt h
  · exact k.format.sub_lt h
  · exact k.format.mul_lt h
  · exact k.format.div_lt h
  · cases h

/-! ### the words that the tape may give for a not-a-number -/
theorem nan_of_range32 {b : Nat} (h1 : 0x7f800000 < b % 2 ^ 31) : isn .f32 b = true := by
  unfold isn FloatKind.decode FloatKind.format Ieee.Format.read
  have e : Ieee.single.signWeight = 2 ^ 31 := by decide +kernel
  have e2 : Ieee.single.binade = 8388608 := by decide +kernel
  have e3 : Ieee.single.infRung = 0x7f800000 := by decide +kernel
  simp only [e, e2, e3]
  rw [if_neg (by omega), if_neg (by omega), if_neg (by omega)]
  rfl

theorem nan_of_range64 {b : Nat} (h1 : 0x7ff0000000000000 < b % 2 ^ 63) : isn .f64 b = true := by
  unfold isn FloatKind.decode FloatKind.format Ieee.Format.read
  have e : Ieee.double.signWeight = 2 ^ 63 := by decide +kernel
  have e2 : Ieee.double.binade = 4503599627370496 := by decide +kernel
  have e3 : Ieee.double.infRung = 0x7ff0000000000000 := by decide +kernel
  simp only [e, e2, e3]
  rw [if_neg (by omega), if_neg (by omega), if_neg (by omega)]
  rfl

theorem cut_nan (k : FloatKind) (q : Question) (hq : (∃ x y, q = .nanBits k x y) ∨ (∃ b, q = .nanConv k b)) (t : Nat) : isn k (q.cut t) = true ∧ q.cut t < 2 ^ k.format.width := by
  have w32 : 2 ^ FloatKind.f32.format.width = 4294967296 := by decide +kernel
  have w64 : 2 ^ FloatKind.f64.format.width = 18446744073709551616 := by decide +kernel
  rcases hq with ⟨x, y, rfl⟩ | ⟨b, rfl⟩ <;> cases k
  · refine ⟨nan_of_range32 ?_, ?_⟩
    · simp only [Question.cut]; rcases Nat.mod_two_eq_zero_or_one t with h | h <;> rw [h] <;> omega
    · rw [w32]; simp only [Question.cut]; omega
  · refine ⟨nan_of_range64 ?_, ?_⟩
    · simp only [Question.cut]; rcases Nat.mod_two_eq_zero_or_one t with h | h <;> rw [h] <;> omega
    · rw [w64]; simp only [Question.cut]; omega
  · refine ⟨nan_of_range32 ?_, ?_⟩
    · simp only [Question.cut]; rcases Nat.mod_two_eq_zero_or_one t with h | h <;> rw [h] <;> omega
    · rw [w32]; simp only [Question.cut]; omega
  · refine ⟨nan_of_range64 ?_, ?_⟩
    · simp only [Question.cut]; rcases Nat.mod_two_eq_zero_or_one t with h | h <;> rw [h] <;> omega
    · rw [w64]; simp only [Question.cut]; omega

section
variable {P : Program}

theorem run_choose_nan {α : Type} (w : World) (q : Question) (hq : q.forced = false) (f : Nat → Sem α) : ((choose q).bind f).run P w = (f (q.cut (w.tape w.drawn q))).run P (w.drewN 1) := by
  simp [choose, Sem.bind, Sem.run, hq]
  rfl

/-- an operation on two floats: whatever the tape answers -/
theorem run_fop (w : World) (op : BinOp) (hop : op = .add ∨ op = .sub ∨ op = .mul ∨ op = .quo) (t : TypeId) (k : FloatKind) (x y : Nat) :
    ∃ r n, (binOp op t (.float k x) (.float k y)).run P w = .ok (.float k r) (w.drewN n) ∧ Is k r (fop op k (cn k x) (cn k y)) := by
  unfold fop
  rw [floatBits_cn]
  cases h : floatBits op k x y with
  | some r =>
    refine ⟨r, 0, ?_, floatBits_lt h, ?_⟩
    · rw [run_float_arith w op t k x y r h]; rfl
    · rw [Option.getD_some]; exact cn_of_not (floatBits_not_nan h)
  | none =>
    have hc := cut_nan k (.nanBits k x y) (.inl ⟨x, y, rfl⟩) (w.tape w.drawn (.nanBits k x y))
    refine ⟨_, 1, ?_, hc.2, ?_⟩
    · unfold floatBits at h
      rcases hop with rfl | rfl | rfl | rfl <;> simp only at h
      all_goals
        simp [binOp, Op.floatArith, h, choose, Sem.run, Question.forced]
        rfl
    · rw [Option.getD_none]; exact cn_of hc.1
end

attribute [irreducible] fop

end Go.Fl
