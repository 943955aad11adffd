/-
  PLAIN LAWS AND CONTRACTS, part 1.
-/
import Derived.WalkKit
import Derived.WalkSpells
import Derived.WalkLawsBesides
import Derived.Deep.Draws
import Derived.Laws.FloatArith
import Derived.Laws.ComplexArith
import Ieee.Arith
import Derived.Laws.FloatBits
import Derived.Test.YtianaalokclklaaRows
import Derived.Lib.Hide

/-
  FLOATS AS WORDS, ALL NOT-A-NUMBERS TAKEN AS ONE. What the operations of the model give, whatever the tape answers, said of canonical words: plain functions of words. (No program here.)
-/
section
set_option linter.unusedVariables false
set_option linter.unusedSimpArgs false
namespace Go.Fl
open Go

/-- the one word that stands for all not-a-numbers -/
def qn : FloatKind → Nat
  | .f32 => 2143289344
  | .f64 => 9221120237041090560

def isn (k : FloatKind) (b : Nat) : Bool := (k.decode b).isNaN

/-- the canonical word -/
def cn (k : FloatKind) (b : Nat) : Nat := if isn k b then qn k else b

/-- 'b' is a word whose canonical word is 'X' -/
def Is (k : FloatKind) (b X : Nat) : Prop := b < 2 ^ k.format.width ∧ cn k b = X

/-- the four operations on canonical words -/
def fop (op : BinOp) (k : FloatKind) (X Y : Nat) : Nat := (floatBits op k X Y).getD (qn k)

theorem isn_qn (k : FloatKind) : isn k (qn k) = true := by cases k <;> decide +kernel

theorem qn_lt (k : FloatKind) : qn k < 2 ^ k.format.width := by cases k <;> decide +kernel

theorem isn_cn (k : FloatKind) (b : Nat) : isn k (cn k b) = isn k b := by
  unfold cn
  by_cases h : isn k b = true
  · rw [if_pos h, isn_qn, h]
  · rw [if_neg h]

theorem cn_of_not {k : FloatKind} {b : Nat} (h : isn k b = false) : cn k b = b := by
  unfold cn; rw [if_neg (by simp [h])]

theorem cn_of {k : FloatKind} {b : Nat} (h : isn k b = true) : cn k b = qn k := by
  unfold cn; rw [if_pos h]

theorem cn_cn (k : FloatKind) (b : Nat) : cn k (cn k b) = cn k b := by
  by_cases h : isn k b = true
  · rw [cn_of h, cn_of (isn_qn k)]
  · rw [cn_of_not (b := b) (by simpa using h), cn_of_not (b := b) (by simpa using h)]

theorem isn_read {k : FloatKind} {b : Nat} (h : isn k b = true) : ∃ s f, k.format.read b = .nan s f := by
  unfold isn FloatKind.decode at h
  cases hd : k.format.read b with
  | number s m e => rw [hd] at h; simp [Ieee.Datum.isNaN] at h
  | infinity s => rw [hd] at h; simp [Ieee.Datum.isNaN] at h
  | nan s f => exact ⟨s, f, rfl⟩

theorem isn_iff (k : FloatKind) (b : Nat) : isn k b = true ↔ ∃ s f, k.format.read b = .nan s f := by
  refine ⟨isn_read, ?_⟩
  rintro ⟨s, f, h⟩
  unfold isn FloatKind.decode
  rw [h]; rfl

theorem floatBits_nan_left {op : BinOp} {k : FloatKind} {x y : Nat} (h : isn k x = true) : floatBits op k x y = none := by
  obtain ⟨s, f, hr⟩ := isn_read h
  unfold floatBits
  split
  · simp [Ieee.Format.add, hr, Ieee.Datum.sum]
  · simp [Ieee.Format.sub, hr, Ieee.Datum.sum]
  · simp [Ieee.Format.mul, hr, Ieee.Datum.product]
  · simp [Ieee.Format.div, hr, Ieee.Datum.quotient]
  · rfl

theorem floatBits_nan_right {op : BinOp} {k : FloatKind} {x y : Nat} (h : isn k y = true) : floatBits op k x y = none := by
  obtain ⟨s, f, hr⟩ := isn_read h
  unfold floatBits
  split
  · cases hx : k.format.read x <;> simp [Ieee.Format.add, hx, hr, Ieee.Datum.sum]
  · cases hx : k.format.read x <;> simp [Ieee.Format.sub, hx, hr, Ieee.Datum.sum, Ieee.Datum.opposite]
  · cases hx : k.format.read x <;> simp [Ieee.Format.mul, hx, hr, Ieee.Datum.product]
  · cases hx : k.format.read x <;> simp [Ieee.Format.div, hx, hr, Ieee.Datum.quotient]
  · rfl

theorem floatBits_cn (op : BinOp) (k : FloatKind) (x y : Nat) : floatBits op k (cn k x) (cn k y) = floatBits op k x y := by
  by_cases hx : isn k x = true
  · rw [floatBits_nan_left hx, floatBits_nan_left (by rw [isn_cn]; exact hx)]
  · by_cases hy : isn k y = true
    · rw [floatBits_nan_right hy, floatBits_nan_right (by rw [isn_cn]; exact hy)]
    · rw [cn_of_not (by simpa using hx), cn_of_not (by simpa using hy)]

theorem order_nan_left {k : FloatKind} {x y : Nat} (h : isn k x = true) : k.format.order x y = none := by
  obtain ⟨s, f, hr⟩ := isn_read h
  simp [Ieee.Format.order, hr, Ieee.Datum.order]

theorem order_nan_right {k : FloatKind} {x y : Nat} (h : isn k y = true) : k.format.order x y = none := by
  obtain ⟨s, f, hr⟩ := isn_read h
  cases hx : k.format.read x <;> simp [Ieee.Format.order, hx, hr, Ieee.Datum.order]

theorem order_cn (k : FloatKind) (x y : Nat) : k.format.order (cn k x) (cn k y) = k.format.order x y := by
  by_cases hx : isn k x = true
  · rw [order_nan_left hx, order_nan_left (by rw [isn_cn]; exact hx)]
  · by_cases hy : isn k y = true
    · rw [order_nan_right hy, order_nan_right (by rw [isn_cn]; exact hy)]
    · rw [cn_of_not (by simpa using hx), cn_of_not (by simpa using hy)]

/-! ### what is written is no not-a-number -/
theorem binade_pos (f : Ieee.Format) : 0 < f.binade := Nat.two_pow_pos _

theorem signWeight_pos (f : Ieee.Format) : 0 < f.signWeight := Nat.two_pow_pos _

theorem read_word (f : Ieee.Format) (neg : Bool) {rung : Nat} (h : rung < f.signWeight) :
    f.read (f.word neg rung) = if rung < f.binade then .number neg rung f.leastPlace
      else if rung < f.infRung then .number neg (f.binade + rung % f.binade) (f.leastPlace + (rung / f.binade - 1 : Nat))
      else if rung = f.infRung then .infinity neg else .nan neg (rung - f.infRung) := by
  have hs := signWeight_pos f
  have e1 : f.word neg rung % f.signWeight = rung := by
    unfold Ieee.Format.word
    split
    · rw [Nat.add_mod_left]; exact Nat.mod_eq_of_lt h
    · exact Nat.mod_eq_of_lt h
  have e2 : (f.word neg rung / f.signWeight % 2 == 1) = neg := by
    unfold Ieee.Format.word
    cases neg
    · simp [Nat.div_eq_of_lt h]
    · simp only [if_true]
      rw [Nat.add_div_left _ hs, Nat.div_eq_of_lt h]
      rfl
  unfold Ieee.Format.read
  simp only [e1, e2]

theorem read_word_le (f : Ieee.Format) (neg : Bool) {rung : Nat} (h : rung ≤ f.infRung) : (f.read (f.word neg rung)).isNaN = false := by
  rw [read_word f neg (Nat.lt_of_le_of_lt h f.infRung_lt)]
  split
  · rfl
  · split
    · rfl
    · rw [if_pos (by omega)]; rfl

theorem nearest_rung (f : Ieee.Format) (neg : Bool) (mag : Nat) (place : Int) : ∃ r, r ≤ f.infRung ∧ f.nearest neg mag place = f.word neg r := by
  unfold Ieee.Format.nearest
  dsimp only
  split
  · exact ⟨0, Nat.zero_le _, rfl⟩
  · exact ⟨_, Nat.min_le_right _ _, rfl⟩

theorem write_not_nan (f : Ieee.Format) {d : Ieee.Datum} (h : d.isNaN = false) : (f.read (f.write d)).isNaN = false := by
  cases d with
  | number s m e =>
    obtain ⟨r, hr, he⟩ := nearest_rung f s m e
    show (f.read (f.nearest s m e)).isNaN = false
    rw [he]; exact read_word_le f s hr
  | infinity s => exact read_word_le f s (Nat.le_refl _)
  | nan s t => simp [Ieee.Datum.isNaN] at h

theorem sum_not_nan {a b d : Ieee.Datum} (h : a.sum b = some d) : d.isNaN = false := by
  cases a <;> cases b <;> simp only [Ieee.Datum.sum] at h <;> (try split at h) <;> (try cases h) <;> rfl
theorem product_not_nan {a b d : Ieee.Datum} (h : a.product b = some d) : d.isNaN = false := by
  cases a <;> cases b <;> simp only [Ieee.Datum.product] at h <;> (try split at h) <;> (try cases h) <;> rfl
theorem quotient_not_nan {n : Nat} {a b d : Ieee.Datum} (h : a.quotient n b = some d) : d.isNaN = false := by
  cases a <;> cases b <;> simp only [Ieee.Datum.quotient] at h <;> (try split at h) <;> (try split at h) <;> (try cases h) <;> rfl
theorem root_not_nan {n : Nat} {a d : Ieee.Datum} (h : a.root n = some d) : d.isNaN = false := by
  cases a <;> simp only [Ieee.Datum.root] at h <;> (try split at h) <;> (try split at h) <;> (try cases h) <;> rfl

theorem map_write_not_nan {f : Ieee.Format} {o : Option Ieee.Datum} (hd : ∀ d, o = some d → d.isNaN = false) {r : Nat} (h : o.map f.write = some r) : (f.read r).isNaN = false := by
  cases o with
  | none => cases h
  | some d => cases h; exact write_not_nan f (hd d rfl)

theorem floatBits_not_nan {op : BinOp} {k : FloatKind} {x y r : Nat} (h : floatBits op k x y = some r) : isn k r = false := by
  unfold floatBits at h
  split at h
  · exact map_write_not_nan (fun d hd => sum_not_nan hd) h
  · exact map_write_not_nan (fun d hd => sum_not_nan hd) h
  · exact map_write_not_nan (fun d hd => product_not_nan hd) h
  · exact map_write_not_nan (fun d hd => quotient_not_nan hd) h
  · cases h

theorem floatBits_lt {op : BinOp} {k : FloatKind} {x y r : Nat} (h : floatBits op k x y = some r) : r < 2 ^ k.format.width := by
  unfold floatBits at h
  split at h
  · exact k.format.add_lt h
  · exact k.format.sub_lt h
  · exact k.format.mul_lt h
  · exact k.format.div_lt h
  · cases h

/-! ### the words that the tape may give for a not-a-number -/
theorem nan_of_range32 {b : Nat} (h1 : 0x7f800000 < b % 2 ^ 31) : isn .f32 b = true := by
  unfold isn FloatKind.decode FloatKind.format Ieee.Format.read
  have e : Ieee.single.signWeight = 2 ^ 31 := by decide +kernel
  have e2 : Ieee.single.binade = 8388608 := by decide +kernel
  have e3 : Ieee.single.infRung = 0x7f800000 := by decide +kernel
  simp only [e, e2, e3]
  rw [if_neg (by omega), if_neg (by omega), if_neg (by omega)]
  rfl

theorem nan_of_range64 {b : Nat} (h1 : 0x7ff0000000000000 < b % 2 ^ 63) : isn .f64 b = true := by
  unfold isn FloatKind.decode FloatKind.format Ieee.Format.read
  have e : Ieee.double.signWeight = 2 ^ 63 := by decide +kernel
  have e2 : Ieee.double.binade = 4503599627370496 := by decide +kernel
  have e3 : Ieee.double.infRung = 0x7ff0000000000000 := by decide +kernel
  simp only [e, e2, e3]
  rw [if_neg (by omega), if_neg (by omega), if_neg (by omega)]
  rfl

theorem cut_nan (k : FloatKind) (q : Question) (hq : (∃ x y, q = .nanBits k x y) ∨ (∃ b, q = .nanConv k b)) (t : Nat) : isn k (q.cut t) = true ∧ q.cut t < 2 ^ k.format.width := by
  have w32 : 2 ^ FloatKind.f32.format.width = 4294967296 := by decide +kernel
  have w64 : 2 ^ FloatKind.f64.format.width = 18446744073709551616 := by decide +kernel
  rcases hq with ⟨x, y, rfl⟩ | ⟨b, rfl⟩ <;> cases k
  · refine ⟨nan_of_range32 ?_, ?_⟩
    · simp only [Question.cut]; rcases Nat.mod_two_eq_zero_or_one t with h | h <;> rw [h] <;> omega
    · rw [w32]; simp only [Question.cut]; omega
  · refine ⟨nan_of_range64 ?_, ?_⟩
    · simp only [Question.cut]; rcases Nat.mod_two_eq_zero_or_one t with h | h <;> rw [h] <;> omega
    · rw [w64]; simp only [Question.cut]; omega
  · refine ⟨nan_of_range32 ?_, ?_⟩
    · simp only [Question.cut]; rcases Nat.mod_two_eq_zero_or_one t with h | h <;> rw [h] <;> omega
    · rw [w32]; simp only [Question.cut]; omega
  · refine ⟨nan_of_range64 ?_, ?_⟩
    · simp only [Question.cut]; rcases Nat.mod_two_eq_zero_or_one t with h | h <;> rw [h] <;> omega
    · rw [w64]; simp only [Question.cut]; omega

section
variable {P : Program}

theorem run_choose_nan {α : Type} (w : World) (q : Question) (hq : q.forced = false) (f : Nat → Sem α) : ((choose q).bind f).run P w = (f (q.cut (w.tape w.drawn q))).run P (w.drewN 1) := by
  simp [choose, Sem.bind, Sem.run, hq]
  rfl

/-- an operation on two floats: whatever the tape answers -/
theorem run_fop (w : World) (op : BinOp) (hop : op = .add ∨ op = .sub ∨ op = .mul ∨ op = .quo) (t : TypeId) (k : FloatKind) (x y : Nat) :
    ∃ r n, (binOp op t (.float k x) (.float k y)).run P w = .ok (.float k r) (w.drewN n) ∧ Is k r (fop op k (cn k x) (cn k y)) := by
  unfold fop
  rw [floatBits_cn]
  cases h : floatBits op k x y with
  | some r =>
    refine ⟨r, 0, ?_, floatBits_lt h, ?_⟩
    · rw [run_float_arith w op t k x y r h]; rfl
    · rw [Option.getD_some]; exact cn_of_not (floatBits_not_nan h)
  | none =>
    have hc := cut_nan k (.nanBits k x y) (.inl ⟨x, y, rfl⟩) (w.tape w.drawn (.nanBits k x y))
    refine ⟨_, 1, ?_, hc.2, ?_⟩
    · unfold floatBits at h
      rcases hop with rfl | rfl | rfl | rfl <;> simp only at h
      all_goals
        simp [binOp, Op.floatArith, h, choose, Sem.run, Question.forced]
        rfl
    · rw [Option.getD_none]; exact cn_of hc.1
end

attribute [irreducible] fop

end Go.Fl
end

/-
  ROUNDING, SAID BY COMPARISON: the rung to which a number is rounded lies not above a rung whose value is not below the number, and not below one whose value is not above it. (No program here.)
-/
section
set_option linter.unusedVariables false
set_option linter.unusedSimpArgs false
namespace Go.Fl
open Ieee

/-- the value of a rung, in units of the least place -/
def rv (f : Format) (r : Nat) : Nat := if r < f.binade then r else (f.binade + r % f.binade) * 2 ^ (r / f.binade - 1)

theorem rv_parts (f : Format) (r : Nat) : ∃ n q, rv f r = n * 2 ^ q ∧ n < 2 * f.binade ∧ (0 < q → f.binade ≤ n) ∧ r = q * f.binade + n := by
  have hb : 0 < f.binade := Nat.two_pow_pos _
  unfold rv
  by_cases h : r < f.binade
  · rw [if_pos h]
    exact ⟨r, 0, by simp, by omega, by omega, by simp⟩
  · rw [if_neg h]
    refine ⟨f.binade + r % f.binade, r / f.binade - 1, rfl, ?_, by omega, ?_⟩
    · have := Nat.mod_lt r hb; omega
    · have h1 : 1 ≤ r / f.binade := (Nat.le_div_iff_mul_le hb).2 (by omega)
      have h2 := Nat.div_add_mod r f.binade
      obtain ⟨d, hd⟩ : ∃ d, r / f.binade = d + 1 := ⟨r / f.binade - 1, by omega⟩
      rw [hd] at h2 ⊢
      rw [Nat.mul_add] at h2
      rw [Nat.add_sub_cancel, Nat.mul_comm d]
      omega

theorem rv_of_parts (f : Format) {n q : Nat} (h1 : n < 2 * f.binade) (h2 : 0 < q → f.binade ≤ n) : rv f (q * f.binade + n) = n * 2 ^ q := by
  have hb : 0 < f.binade := Nat.two_pow_pos _
  unfold rv
  by_cases hq : q = 0
  · subst hq
    simp only [Nat.zero_mul, Nat.zero_add, Nat.pow_zero, Nat.mul_one]
    by_cases h : n < f.binade
    · rw [if_pos h]
    · rw [if_neg h]
      obtain ⟨d, hd⟩ : ∃ d, n = f.binade + d := ⟨n - f.binade, by omega⟩
      subst hd
      have hd : d < f.binade := by omega
      rw [Nat.add_mod_left, Nat.mod_eq_of_lt hd, Nat.add_div_left _ hb, Nat.div_eq_of_lt hd]
      simp
  · have hn := h2 (by omega)
    obtain ⟨d, hd⟩ : ∃ d, n = f.binade + d := ⟨n - f.binade, by omega⟩
    subst hd
    have hd : d < f.binade := by omega
    have hge : f.binade ≤ q * f.binade := Nat.le_mul_of_pos_left _ (by omega)
    rw [if_neg (by omega)]
    have e : q * f.binade + (f.binade + d) = d + f.binade * (q + 1) := by rw [Nat.mul_add, Nat.mul_comm q]; omega
    rw [e, Nat.add_mul_mod_self_left, Nat.mod_eq_of_lt hd, Nat.add_mul_div_left _ _ hb, Nat.div_eq_of_lt hd]
    simp

theorem two_pow_le {a b : Nat} (h : a ≤ b) : 2 ^ a ≤ 2 ^ b := Nat.pow_le_pow_right (by omega) h

theorem rv_lt (f : Format) {r s : Nat} (h : r < s) : rv f r < rv f s := by
  have hb : 0 < f.binade := Nat.two_pow_pos _
  obtain ⟨n, q, e, h1, h2, h3⟩ := rv_parts f r
  obtain ⟨m, p, e', h1', h2', h3'⟩ := rv_parts f s
  rw [e, e']
  by_cases hqp : q = p
  · subst hqp
    exact Nat.mul_lt_mul_of_pos_right (by omega) (Nat.two_pow_pos _)
  · have hlt : q < p := by
      rcases Nat.lt_or_ge q p with g | g
      · exact g
      · exfalso
        have g' : p + 1 ≤ q := by omega
        have g2 : (p + 1) * f.binade ≤ q * f.binade := Nat.mul_le_mul_right _ g'
        rw [Nat.add_mul, Nat.one_mul] at g2
        have := h2 (by omega)
        omega
    have hm := h2' (by omega)
    have g1 : n * 2 ^ q < 2 * f.binade * 2 ^ q := Nat.mul_lt_mul_of_pos_right h1 (Nat.two_pow_pos _)
    have g2 : 2 * f.binade * 2 ^ q = f.binade * 2 ^ (q + 1) := by rw [Nat.pow_succ]; ac_rfl
    have g3 : f.binade * 2 ^ (q + 1) ≤ m * 2 ^ p := Nat.mul_le_mul hm (two_pow_le (by omega))
    omega

theorem rv_le (f : Format) {r s : Nat} (h : r ≤ s) : rv f r ≤ rv f s := by
  rcases Nat.eq_or_lt_of_le h with rfl | h
  · exact Nat.le_refl _
  · exact Nat.le_of_lt (rv_lt f h)

theorem le_of_rv_le (f : Format) {r s : Nat} (h : rv f r ≤ rv f s) : r ≤ s := by
  rcases Nat.lt_or_ge s r with g | g
  · have := rv_lt f g; omega
  · exact g

theorem lt_of_rv_lt (f : Format) {r s : Nat} (h : rv f r < rv f s) : r < s := by
  rcases Nat.lt_or_ge r s with g | g
  · exact g
  · have := rv_le f g; omega

theorem eq_of_rv_eq (f : Format) {r s : Nat} (h : rv f r = rv f s) : r = s :=
  Nat.le_antisymm (le_of_rv_le f (by omega)) (le_of_rv_le f (by omega))

theorem shl_one (n : Nat) : 1 <<< n = 2 ^ n := by rw [Nat.shiftLeft_eq, Nat.one_mul]

/-- rounding to a whole number -/
theorem cut_far {neg : Bool} {n drop : Nat} (h : n.log2 + 2 < drop) : Toward.even.cut neg n drop = 0 := by
  have h1 : n < 2 ^ (n.log2 + 1) := Nat.lt_log2_self
  have hg : 1 <<< min drop (n.log2 + 2) = 2 * 2 ^ (n.log2 + 1) := by rw [Nat.min_eq_right (by omega), shl_one, Nat.pow_succ]; omega
  unfold Toward.cut
  simp only [hg]
  have e1 : n / (2 * 2 ^ (n.log2 + 1)) = 0 := Nat.div_eq_of_lt (by omega)
  have e2 : n % (2 * 2 ^ (n.log2 + 1)) = n := Nat.mod_eq_of_lt (by omega)
  rw [e1, e2]
  have b1 : decide (2 * 2 ^ (n.log2 + 1) < 2 * n) = false := decide_eq_false (by omega)
  rw [b1]
  simp

theorem cut_near {neg : Bool} {n drop : Nat} (h : drop ≤ n.log2 + 2) :
    Toward.even.cut neg n drop = n / 2 ^ drop + (2 ^ drop < 2 * (n % 2 ^ drop) || (2 ^ drop == 2 * (n % 2 ^ drop) && n / 2 ^ drop % 2 == 1) : Bool).toNat := by
  unfold Toward.cut
  simp only [Nat.min_eq_left h, shl_one]

theorem cut_le {neg : Bool} {n drop N : Nat} (h : n ≤ N * 2 ^ drop) : Toward.even.cut neg n drop ≤ N := by
  by_cases hd : n.log2 + 2 < drop
  · rw [cut_far hd]; omega
  · rw [cut_near (by omega)]
    have hp : 0 < 2 ^ drop := Nat.two_pow_pos _
    generalize 2 ^ drop = g at h hp
    have h1 : n / g ≤ N := Nat.div_le_of_le_mul (by rw [Nat.mul_comm]; exact h)
    by_cases he : n / g = N
    · have h3 := Nat.div_add_mod n g
      rw [he, Nat.mul_comm] at h3
      have h4 : n % g = 0 := by omega
      have b1 : decide (g < 2 * (n % g)) = false := by simp; omega
      have b2 : (g == 2 * (n % g)) = false := by simp; omega
      rw [b1, b2, he]; simp
    · have : (decide (g < 2 * (n % g)) || (g == 2 * (n % g) && n / g % 2 == 1)).toNat ≤ 1 := Bool.toNat_le _
      omega

theorem le_cut {neg : Bool} {n drop N : Nat} (h : N * 2 ^ drop ≤ n) : N ≤ Toward.even.cut neg n drop := by
  by_cases hd : n.log2 + 2 < drop
  · have h1 : n < 2 ^ (n.log2 + 1) := Nat.lt_log2_self
    have h2 : 2 ^ (n.log2 + 1) ≤ 2 ^ drop := two_pow_le (by omega)
    rcases Nat.eq_zero_or_pos N with h0 | h0
    · omega
    · have : 1 * 2 ^ drop ≤ N * 2 ^ drop := Nat.mul_le_mul_right _ h0
      omega
  · rw [cut_near (by omega)]
    have := (Nat.le_div_iff_mul_le (Nat.two_pow_pos drop)).2 h
    omega

/-- THE SANDWICH -/
theorem nearest_between (f : Format) (neg : Bool) (mag : Nat) (place : Int) (hm : 0 < mag) :
    ∃ r, r ≤ f.infRung ∧ f.nearest neg mag place = f.word neg r ∧ ∀ r0, r0 ≤ f.infRung →
      (mag * 2 ^ (place - f.leastPlace).toNat ≤ rv f r0 * 2 ^ (f.leastPlace - place).toNat → r ≤ r0) ∧
      (rv f r0 * 2 ^ (f.leastPlace - place).toNat ≤ mag * 2 ^ (place - f.leastPlace).toNat → r0 ≤ r) := by
  have hb : 0 < f.binade := Nat.two_pow_pos _
  have hL1 : 2 ^ mag.log2 ≤ mag := Nat.log2_self_le (by omega)
  have hL2 : mag < 2 ^ (mag.log2 + 1) := Nat.lt_log2_self
  unfold Format.nearest
  dsimp only
  rw [if_neg (by omega)]
  generalize hlast : max (place + mag.log2 - f.fractionBits) f.leastPlace = last
  generalize hq : (last - f.leastPlace).toNat = q
  generalize hc : (place - last).toNat = c
  generalize hD : (last - place).toNat = D
  generalize ha : (place - f.leastPlace).toNat = a
  generalize hbb : (f.leastPlace - place).toNat = b
  have hsum : a + D = b + q + c := by omega
  rw [Nat.shiftLeft_eq]
  generalize hk : Toward.even.cut neg (mag * 2 ^ c) D = kept
  -- kept is at most two binades
  have k2 : kept ≤ 2 * f.binade := by
    rw [← hk]
    apply cut_le
    have e : 2 * f.binade = 2 ^ (f.fractionBits + 1) := by unfold Format.binade; rw [Nat.pow_succ]; omega
    rw [e, ← Nat.pow_add]
    have : mag * 2 ^ c ≤ 2 ^ (mag.log2 + 1) * 2 ^ c := Nat.mul_le_mul_right _ (by omega)
    rw [← Nat.pow_add] at this
    exact Nat.le_trans this (two_pow_le (by omega))
  have kq : 0 < q → f.binade * 2 ^ D ≤ mag * 2 ^ c := by
    intro hq0
    have e1 : 2 ^ (mag.log2 + c) ≤ mag * 2 ^ c := by rw [Nat.pow_add]; exact Nat.mul_le_mul_right _ hL1
    refine Nat.le_trans ?_ e1
    unfold Format.binade
    rw [← Nat.pow_add]
    exact two_pow_le (by omega)
  have k1 : 0 < q → f.binade ≤ kept := by
    intro hq0
    rw [← hk]
    exact le_cut (kq hq0)
  have hval : rv f (q * f.binade + kept) = kept * 2 ^ q := by
    rcases Nat.lt_or_ge kept (2 * f.binade) with g | g
    · exact rv_of_parts f g k1
    · have e : kept = 2 * f.binade := by omega
      rw [e]
      have e2 : q * f.binade + 2 * f.binade = (q + 1) * f.binade + f.binade := by rw [Nat.add_mul]; omega
      rw [e2, rv_of_parts f (by omega) (by omega), Nat.pow_succ]
      ac_rfl
  refine ⟨min (q * f.binade + kept) f.infRung, Nat.min_le_right _ _, rfl, ?_⟩
  intro r0 hr0
  obtain ⟨n0, q0, e0, g1, g2, g3⟩ := rv_parts f r0
  rw [e0]
  constructor
  · intro hv
    have hmul : mag * 2 ^ c * 2 ^ (b + q) ≤ n0 * 2 ^ q0 * 2 ^ (b + D) := by
      have h1 : mag * 2 ^ a * 2 ^ D ≤ n0 * 2 ^ q0 * 2 ^ b * 2 ^ D := Nat.mul_le_mul_right _ hv
      have h2 : mag * 2 ^ a * 2 ^ D = mag * 2 ^ c * 2 ^ (b + q) := by
        rw [Nat.mul_assoc, Nat.mul_assoc, ← Nat.pow_add, ← Nat.pow_add, hsum, Nat.add_comm c]
      have h3 : n0 * 2 ^ q0 * 2 ^ b * 2 ^ D = n0 * 2 ^ q0 * 2 ^ (b + D) := by rw [Nat.pow_add, Nat.mul_assoc (n0 * 2 ^ q0)]
      omega
    have hle : q * f.binade + kept ≤ r0 := by
      rcases Nat.lt_or_ge q0 q with g | g
      · exfalso
        have hk' := kq (by omega)
        have t1 : f.binade * 2 ^ D * 2 ^ (b + q) ≤ mag * 2 ^ c * 2 ^ (b + q) := Nat.mul_le_mul_right _ hk'
        have t2 : n0 * 2 ^ q0 * 2 ^ (b + D) < 2 * f.binade * 2 ^ q0 * 2 ^ (b + D) :=
          Nat.mul_lt_mul_of_pos_right (Nat.mul_lt_mul_of_pos_right g1 (Nat.two_pow_pos _)) (Nat.two_pow_pos _)
        have t3 : 2 * f.binade * 2 ^ q0 * 2 ^ (b + D) = f.binade * 2 ^ (q0 + 1 + (b + D)) := by
          rw [Nat.pow_add 2 (q0 + 1), Nat.pow_succ]; ac_rfl
        have t4 : f.binade * 2 ^ D * 2 ^ (b + q) = f.binade * 2 ^ (q + (b + D)) := by
          rw [Nat.mul_assoc, ← Nat.pow_add]; congr 2; omega
        have t5 : f.binade * 2 ^ (q0 + 1 + (b + D)) ≤ f.binade * 2 ^ (q + (b + D)) := Nat.mul_le_mul_left _ (two_pow_le (by omega))
        omega
      · apply le_of_rv_le f
        rw [hval, e0]
        have hN : mag * 2 ^ c ≤ n0 * 2 ^ (q0 - q) * 2 ^ D := by
          have e1 : n0 * 2 ^ q0 * 2 ^ (b + D) = n0 * 2 ^ (q0 - q) * 2 ^ D * 2 ^ (b + q) := by
            rw [Nat.mul_assoc, Nat.mul_assoc n0, Nat.mul_assoc n0, ← Nat.pow_add, ← Nat.pow_add, ← Nat.pow_add]; congr 2; omega
          rw [e1] at hmul
          exact Nat.le_of_mul_le_mul_right hmul (Nat.two_pow_pos _)
        have hkn : kept ≤ n0 * 2 ^ (q0 - q) := by rw [← hk]; exact cut_le hN
        have e2 : n0 * 2 ^ q0 = n0 * 2 ^ (q0 - q) * 2 ^ q := by rw [Nat.mul_assoc, ← Nat.pow_add]; congr 2; omega
        rw [e2]
        exact Nat.mul_le_mul_right _ hkn
    omega
  · intro hv
    have hmul : n0 * 2 ^ q0 * 2 ^ (b + D) ≤ mag * 2 ^ c * 2 ^ (b + q) := by
      have h1 : n0 * 2 ^ q0 * 2 ^ b * 2 ^ D ≤ mag * 2 ^ a * 2 ^ D := Nat.mul_le_mul_right _ hv
      have h2 : mag * 2 ^ a * 2 ^ D = mag * 2 ^ c * 2 ^ (b + q) := by
        rw [Nat.mul_assoc, Nat.mul_assoc, ← Nat.pow_add, ← Nat.pow_add, hsum, Nat.add_comm c]
      have h3 : n0 * 2 ^ q0 * 2 ^ b * 2 ^ D = n0 * 2 ^ q0 * 2 ^ (b + D) := by rw [Nat.pow_add, Nat.mul_assoc (n0 * 2 ^ q0)]
      omega
    have hle : r0 ≤ q * f.binade + kept := by
      apply le_of_rv_le f
      rw [hval, e0]
      rcases Nat.lt_or_ge q0 q with g | g
      · have hk' := k1 (by omega)
        have t1 : n0 * 2 ^ q0 < 2 * f.binade * 2 ^ q0 := Nat.mul_lt_mul_of_pos_right g1 (Nat.two_pow_pos _)
        have t2 : 2 * f.binade * 2 ^ q0 = f.binade * 2 ^ (q0 + 1) := by rw [Nat.pow_succ]; ac_rfl
        have t3 : f.binade * 2 ^ (q0 + 1) ≤ kept * 2 ^ q := Nat.mul_le_mul hk' (two_pow_le (by omega))
        omega
      · have hN : n0 * 2 ^ (q0 - q) * 2 ^ D ≤ mag * 2 ^ c := by
          have e1 : n0 * 2 ^ q0 * 2 ^ (b + D) = n0 * 2 ^ (q0 - q) * 2 ^ D * 2 ^ (b + q) := by
            rw [Nat.mul_assoc, Nat.mul_assoc n0, Nat.mul_assoc n0, ← Nat.pow_add, ← Nat.pow_add, ← Nat.pow_add]; congr 2; omega
          rw [e1] at hmul
          exact Nat.le_of_mul_le_mul_right hmul (Nat.two_pow_pos _)
        have hkn : n0 * 2 ^ (q0 - q) ≤ kept := by rw [← hk]; exact le_cut hN
        have e2 : n0 * 2 ^ q0 = n0 * 2 ^ (q0 - q) * 2 ^ q := by rw [Nat.mul_assoc, ← Nat.pow_add]; congr 2; omega
        rw [e2]
        exact Nat.mul_le_mul_right _ hkn
    omega

end Go.Fl
end

/-
  THE WALK's LAWS FOR FLOATS: at an operation on floats the walk goes on with SOME word whose canonical word is told. (No program here.)
-/
section
set_option linter.unusedVariables false
set_option linter.unusedSimpArgs false
namespace Go.Fl
open Go Ieee

/-! ### exactness; widening -/
theorem nearest_exact (f : Format) (neg : Bool) {mag : Nat} {place : Int} {r0 : Nat} (hr : r0 ≤ f.infRung)
    (h : mag * 2 ^ (place - f.leastPlace).toNat = rv f r0 * 2 ^ (f.leastPlace - place).toNat) : f.nearest neg mag place = f.word neg r0 := by
  by_cases hm : mag = 0
  · subst hm
    have h0 : rv f r0 * 2 ^ (f.leastPlace - place).toNat = 0 := by omega
    have hp : 0 < 2 ^ (f.leastPlace - place).toNat := Nat.two_pow_pos _
    have h1 : rv f r0 = 0 := by
      rcases Nat.mul_eq_zero.1 h0 with g | g
      · exact g
      · omega
    have h2 : r0 ≤ 0 := le_of_rv_le f (by rw [h1]; exact Nat.zero_le _)
    have h3 : r0 = 0 := by omega
    subst h3
    unfold Format.nearest
    simp
  · obtain ⟨r, h1, h2, h3⟩ := nearest_between f neg mag place (by omega)
    obtain ⟨h4, h5⟩ := h3 r0 hr
    have : r = r0 := Nat.le_antisymm (h4 (by omega)) (h5 (by omega))
    rw [h2, this]

theorem read_fin (f : Format) (neg : Bool) {r : Nat} (h : r < f.infRung) :
    ∃ m e, f.read (f.word neg r) = .number neg m e ∧ f.leastPlace ≤ e ∧ m * 2 ^ (e - f.leastPlace).toNat = rv f r ∧ m < 2 * f.binade := by
  have hb : 0 < f.binade := Nat.two_pow_pos _
  rw [read_word f neg (Nat.lt_trans h f.infRung_lt)]
  by_cases h1 : r < f.binade
  · rw [if_pos h1]
    exact ⟨r, _, rfl, Int.le_refl _, by simp [rv, h1], by omega⟩
  · rw [if_neg h1, if_pos h]
    refine ⟨_, _, rfl, by omega, ?_, ?_⟩
    · unfold rv
      rw [if_neg h1]
      congr 2
      omega
    · have := Nat.mod_lt r hb; omega

theorem exists_rung (f : Format) : ∀ (q n : Nat), n < 2 * f.binade → ∃ r, rv f r = n * 2 ^ q ∧ r < (q + 2) * f.binade
  | 0, n, h => ⟨n, by have := rv_of_parts f (q := 0) h (by omega); simpa using this, by rw [Nat.zero_add]; omega⟩
  | q + 1, n, h => by
    rcases Nat.lt_or_ge n f.binade with g | g
    · obtain ⟨r, h1, h2⟩ := exists_rung f q (2 * n) (by omega)
      refine ⟨r, ?_, ?_⟩
      · rw [h1, Nat.pow_succ]; ac_rfl
      · refine Nat.lt_of_lt_of_le h2 (Nat.mul_le_mul_right _ (by omega))
    · refine ⟨(q + 1) * f.binade + n, rv_of_parts f h (fun _ => g), ?_⟩
      rw [show q + 1 + 2 = (q + 1) + 2 from rfl, Nat.add_mul (q + 1) 2]
      omega

theorem word_parts (f : Format) {X : Nat} (h : X < 2 ^ f.width) : X = f.word (X / f.signWeight % 2 == 1) (X % f.signWeight) := by
  have hs := signWeight_pos f
  have two : 2 ^ f.width = 2 * f.signWeight := by
    unfold Format.width Format.signWeight
    rw [Nat.add_assoc, Nat.add_comm 1, Nat.pow_succ, Nat.mul_comm]
  have h1 := Nat.div_add_mod X f.signWeight
  have h2 : X / f.signWeight < 2 := by rw [Nat.div_lt_iff_lt_mul hs]; omega
  unfold Format.word
  rcases (show X / f.signWeight = 0 ∨ X / f.signWeight = 1 from by generalize X / f.signWeight = d at h2; omega) with g | g
  · rw [g] at h1
    have e : (X / f.signWeight % 2 == 1) = false := by rw [g]; rfl
    rw [e, if_neg (by decide)]
    omega
  · rw [g] at h1
    have e : (X / f.signWeight % 2 == 1) = true := by rw [g]; rfl
    rw [e, if_pos rfl]
    omega

theorem inf32 : Ieee.single.infRung = 2139095040 := by decide +kernel
theorem inf64 : Ieee.double.infRung = 9218868437227405312 := by decide +kernel
theorem bin32 : Ieee.single.binade = 8388608 := by decide +kernel
theorem bin64 : Ieee.double.binade = 4503599627370496 := by decide +kernel
theorem sw32 : Ieee.single.signWeight = 2147483648 := by decide +kernel
theorem sw64 : Ieee.double.signWeight = 9223372036854775808 := by decide +kernel
theorem lp32 : Ieee.single.leastPlace = -149 := by decide +kernel
theorem lp64 : Ieee.double.leastPlace = -1074 := by decide +kernel

theorem exists_dec (r : Nat) (h : r < 2139095040) : ∃ m e, rv Ieee.single r = m * 2 ^ e ∧ m < 16777216 ∧ e ≤ 254 := by
  obtain ⟨n, q, h1, h2, _, h3⟩ := rv_parts Ieee.single r
  rw [bin32] at h2 h3
  exact ⟨n, q, h1, by omega, by omega⟩

/-- a 32-bit number, as a 64-bit one: the same number -/
theorem widen_fin (neg : Bool) {r : Nat} (h : r < 2139095040) :
    ∃ r0, r0 < 9218868437227405312 ∧ rv Ieee.double r0 = rv Ieee.single r * 2 ^ 925 ∧ floatToFloatBits .f32 (Ieee.single.word neg r) .f64 = some (Ieee.double.word neg r0) := by
  obtain ⟨m, e, h1, h2, h3⟩ := exists_dec r h
  obtain ⟨r0, g1, g2⟩ := exists_rung Ieee.double (e + 925) m (by rw [bin64]; omega)
  have g3 : r0 < (e + 925 + 2) * 4503599627370496 := bin64 ▸ g2
  have hr0 : r0 < 9218868437227405312 := Nat.lt_of_lt_of_le g3 (Nat.le_trans (Nat.mul_le_mul_right _ (show e + 925 + 2 ≤ 1181 by omega)) (by decide))
  have hv : rv Ieee.double r0 = rv Ieee.single r * 2 ^ 925 := by rw [g1, h1, Nat.pow_add, Nat.mul_assoc]
  refine ⟨r0, hr0, hv, ?_⟩
  obtain ⟨mm, ee, hread, hle, hval, _⟩ := read_fin Ieee.single neg (r := r) (by rw [inf32]; exact h)
  have henc : FloatKind.encode .f64 (.number neg mm ee) = Ieee.double.word neg r0 := by
    show Ieee.double.nearest neg mm ee = _
    refine nearest_exact _ _ (by rw [inf64]; omega) ?_
    rw [lp32] at hle hval
    rw [lp64, hv, ← hval]
    have e1 : ((-1074 : Int) - ee).toNat = 0 := by omega
    have e2 : (ee - (-1074 : Int)).toNat = (ee - (-149 : Int)).toNat + 925 := by omega
    rw [e1, e2, Nat.pow_add]
    simp only [Nat.pow_zero, Nat.mul_one, Nat.mul_assoc]
  obtain ⟨m2, e2, hread2, _, _, _⟩ := read_fin Ieee.double neg (r := r0) (by rw [inf64]; exact hr0)
  unfold floatToFloatBits
  rw [if_neg (by decide)]
  have hd : FloatKind.f32.decode (Ieee.single.word neg r) = .number neg mm ee := hread
  simp only [hd, henc]
  have hd2 : FloatKind.f64.decode (Ieee.double.word neg r0) = .number neg m2 e2 := hread2
  rw [hd2]
  rfl


/-! ### conversions on canonical words -/
def wid (X : Nat) : Nat := (floatToFloatBits .f32 X .f64).getD (qn .f64)
def nar (X : Nat) : Nat := (floatToFloatBits .f64 X .f32).getD (qn .f32)
/-- narrowing is told by the model: a not-a-number, an infinity, or a number that is not too great -/
def NoOv (X : Nat) : Prop := isn .f64 X = true ∨ (floatToFloatBits .f64 X .f32).isSome = true

def feq (k : FloatKind) (X Y : Nat) : Bool := k.format.order X Y == some .eq
def fne (k : FloatKind) (X Y : Nat) : Bool := k.format.order X Y != some .eq
def flt (k : FloatKind) (X Y : Nat) : Bool := k.format.order X Y == some .lt
def fle (k : FloatKind) (X Y : Nat) : Bool := k.format.order X Y == some .lt || k.format.order X Y == some .eq
def fgt (k : FloatKind) (X Y : Nat) : Bool := k.format.order X Y == some .gt
def fge (k : FloatKind) (X Y : Nat) : Bool := k.format.order X Y == some .gt || k.format.order X Y == some .eq

theorem conv_nan {s d : FloatKind} (hsd : s ≠ d) {x : Nat} (h : isn s x = true) : floatToFloatBits s x d = none := by
  obtain ⟨g, f, hr⟩ := isn_read h
  unfold floatToFloatBits
  rw [if_neg hsd]
  have : s.decode x = .nan g f := hr
  rw [this]

theorem conv_not_nan {s d : FloatKind} (hsd : s ≠ d) {x r : Nat} (h : floatToFloatBits s x d = some r) : isn d r = false ∧ r < 2 ^ d.format.width := by
  unfold floatToFloatBits at h
  rw [if_neg hsd] at h
  split at h
  · cases h
  · cases h; exact ⟨write_not_nan d.format rfl, d.format.write_lt _⟩
  · split at h
    · cases h
    · cases h; exact ⟨write_not_nan d.format rfl, d.format.write_lt _⟩

section
variable {P : Program}

theorem run_conv (w : World) (src dst : TypeId) (s d : FloatKind) (hsd : s ≠ d) {us : TypeDesc} (hs : P.underlying src = some us) (hd : P.underlying dst = some (.float d)) (x : Nat)
    (hok : isn s x = true ∨ (floatToFloatBits s x d).isSome = true) :
    ∃ r n, (convert src dst (.float s x)).run P w = .ok (.float d r) (w.drewN n) ∧ Is d r ((floatToFloatBits s (cn s x) d).getD (qn d)) := by
  by_cases hn : isn s x = true
  · have h1 : floatToFloatBits s (cn s x) d = none := conv_nan hsd (by rw [isn_cn]; exact hn)
    rw [h1]
    have hc := cut_nan d (.nanConv d x) (.inr ⟨x, rfl⟩) (w.tape w.drawn (.nanConv d x))
    refine ⟨_, 1, ?_, hc.2, ?_⟩
    · obtain ⟨g, f, hr⟩ := isn_read hn
      have hr' : s.decode x = .nan g f := hr
      cases us <;> simp [convert, run_underlying hs, run_underlying hd, Conv.floatToFloat, hsd, hr', choose, Sem.run, Question.forced] <;> rfl
    · rw [Option.getD_none]; exact cn_of hc.1
  · rw [cn_of_not (by simpa using hn)]
    obtain ⟨r, hr⟩ := Option.isSome_iff_exists.1 (hok.resolve_left hn)
    refine ⟨r, 0, ?_, ?_⟩
    · rw [run_convert_float_float w src dst s d x r (by rw [hs]; rfl) hd hr]; rfl
    · rw [hr, Option.getD_some]
      obtain ⟨h1, h2⟩ := conv_not_nan hsd hr
      exact ⟨h2, cn_of_not h1⟩

/-- no 32-bit number is too great for 64 bits -/
theorem widen_ok {x : Nat} (hx : x < 2 ^ FloatKind.f32.format.width) : isn .f32 x = true ∨ (floatToFloatBits .f32 x .f64).isSome = true := by
  have hw := word_parts Ieee.single hx
  generalize hneg : (x / Ieee.single.signWeight % 2 == 1) = neg at hw
  generalize hrg : x % Ieee.single.signWeight = r at hw
  have hlt : r < Ieee.single.signWeight := by rw [← hrg]; exact Nat.mod_lt _ (signWeight_pos _)
  have h1 : Ieee.single.infRung = 2139095040 := inf32
  rcases Nat.lt_or_ge r 2139095040 with g | g
  · right
    obtain ⟨r0, _, _, h⟩ := widen_fin neg g
    rw [hw, h]; rfl
  · rcases Nat.eq_or_lt_of_le g with g | g
    · right
      subst g
      have hb : ¬ (2139095040 < Ieee.single.binade) := by rw [bin32]; decide
      have hread : FloatKind.f32.decode x = .infinity neg := by
        show Ieee.single.read x = _
        rw [hw, read_word _ _ hlt, if_neg hb, h1, if_neg (by decide), if_pos rfl]
      unfold floatToFloatBits
      rw [if_neg (by decide), hread]; rfl
    · left
      have hb : ¬ (r < Ieee.single.binade) := by rw [bin32]; omega
      refine (isn_iff _ _).2 ⟨neg, r - Ieee.single.infRung, ?_⟩
      show Ieee.single.read x = _
      rw [hw, read_word _ _ hlt, if_neg hb, if_neg (by rw [h1]; omega), if_neg (by rw [h1]; omega)]

/-! ### the walk -/
/-- 'w'' is 'w' but for answers drawn -/
def Dr (w w' : World) : Prop := ∃ n, w' = w.drewN n
theorem Dr.refl (w : World) : Dr w w := ⟨0, rfl⟩
theorem Dr.drewN {w w' : World} (h : Dr w w') (n : Nat) : Dr w (w'.drewN n) := by
  obtain ⟨m, rfl⟩ := h
  exact ⟨m + n, by simp⟩
theorem Dr.trans {w w' w'' : World} (h : Dr w w') (g : Dr w' w'') : Dr w w'' := by
  obtain ⟨m, rfl⟩ := h
  obtain ⟨n, rfl⟩ := g
  exact ⟨m + n, by simp⟩
theorem Dr.below {w w' : World} (h : Dr w w') (B : Nat) : RowKit.Below B w w' := by
  obtain ⟨n, rfl⟩ := h
  exact ⟨rfl, rfl, rfl, Nat.le_refl _, fun _ _ => rfl⟩

/-- what a call that hands back one float has done -/
def FRet (k : FloatKind) (X : Nat) (w : World) (e : Ending) (w' : World) : Prop := ∃ r, e = .returned (.float k r) ∧ Is k r X ∧ Dr w w'
/-- what a call that hands back one value and draws has done -/
def VRet (v : Value) (w : World) (e : Ending) (w' : World) : Prop := e = .returned v ∧ Dr w w'

theorem Is.lit {k : FloatKind} {b : Nat} (h : (decide (b < 2 ^ k.format.width) && !isn k b) = true) : Is k b b := by
  simp only [Bool.and_eq_true, decide_eq_true_eq, Bool.not_eq_true'] at h
  exact ⟨h.1, cn_of_not h.2⟩

theorem Is.ofInt (k : FloatKind) (n : Int) : Is k (floatOfInt k n) (floatOfInt k n) :=
  have h1 : isn k (floatOfInt k n) = false := write_not_nan k.format (d := .number (n < 0) n.natAbs 0) rfl
  ⟨k.format.write_lt (.number (n < 0) n.natAbs 0), cn_of_not h1⟩

theorem Is.mk {k : FloatKind} {b : Nat} (h : b < 2 ^ k.format.width) : Is k b (cn k b) := ⟨h, rfl⟩

variable {ops : Array Oper} {rest : List Oper} {a : Act} {Q : Exit → Act → World → Prop} {w : World} {dst : Option Tmp} {ty : TypeId} {pos : String} {after : Array Edge} {guard : Option (Nat × Bool)} {x y : Operand} {t t' : TypeId}

theorem wanted_none {o : Op} {y : Nat → Option Bool} : Region.wanted ⟨dst, o, ty, pos, after, none⟩ y = true := rfl
theorem wanted_some {o : Op} {j : Nat} {b : Bool} {tmps : Array Value} (h : yielded ops tmps j = some b) : Region.wanted ⟨dst, o, ty, pos, after, some (j, b)⟩ (yielded ops tmps) = true := by
  show (yielded ops tmps j == some b) = true
  rw [h]; simp

theorem wpList_run {o : Oper} {v : Value} {n : Nat} (hw : Region.wanted o (yielded ops a.tmps) = true)
    (hrun : (execOp a.eval o).run P w = .ok (.value v) (w.drewN n)) (hK : wpList P ops Q rest (a.put o.dst v) (w.drewN n)) : wpList P ops Q (o :: rest) a w := by
  unfold wpList
  rw [if_pos hw]
  left
  unfold Oper.wp
  rw [hrun]
  exact hK

theorem run_exec_binOp {op : BinOp} {k : FloatKind} {bx by' : Nat} {v : Value} {w' : World} (ex : a.eval x = .float k bx) (ey : a.eval y = .float k by')
    (h : (binOp op t (.float k bx) (.float k by')).run P w = .ok v w') : (execOp a.eval ⟨dst, .binOp op t x y t', ty, pos, after, guard⟩).run P w = .ok (.value v) w' := by
  cases op <;> simp [execOp, eqGuard, ex, ey, h]

theorem wpList_here {o : Oper} (h : wpList P ops Q (o :: rest) a w) : wpList P ops Q (o :: rest) a w := h

theorem wpList_fop {op : BinOp} (hop : op = .add ∨ op = .sub ∨ op = .mul ∨ op = .quo) {k : FloatKind} {bx by' X Y : Nat}
    (hw : Region.wanted ⟨dst, .binOp op t x y t', ty, pos, after, guard⟩ (yielded ops a.tmps) = true) (ex : a.eval x = .float k bx) (ey : a.eval y = .float k by') (hx : Is k bx X) (hy : Is k by' Y)
    (hK : ∀ r n, Is k r (fop op k X Y) → wpList P ops Q rest (a.put dst (.float k r)) (w.drewN n)) :
    wpList P ops Q (⟨dst, .binOp op t x y t', ty, pos, after, guard⟩ :: rest) a w := by
  obtain ⟨r, n, hrun, hr⟩ := run_fop (P := P) w op hop t k bx by'
  rw [hx.2, hy.2] at hr
  refine wpList_run (v := .float k r) (n := n) hw ?_ (hK r n hr)
  exact run_exec_binOp ex ey hrun

theorem wpList_fadd {k : FloatKind} {bx by' X Y : Nat}
    (hw : Region.wanted ⟨dst, .binOp .add t x y t', ty, pos, after, guard⟩ (yielded ops a.tmps) = true) (ex : a.eval x = .float k bx) (ey : a.eval y = .float k by') (hx : Is k bx X) (hy : Is k by' Y)
    (hK : ∀ r n, Is k r (fop .add k X Y) → wpList P ops Q rest (a.put dst (.float k r)) (w.drewN n)) :
    wpList P ops Q (⟨dst, .binOp .add t x y t', ty, pos, after, guard⟩ :: rest) a w := wpList_fop (by simp) hw ex ey hx hy hK
theorem wpList_fsub {k : FloatKind} {bx by' X Y : Nat}
    (hw : Region.wanted ⟨dst, .binOp .sub t x y t', ty, pos, after, guard⟩ (yielded ops a.tmps) = true) (ex : a.eval x = .float k bx) (ey : a.eval y = .float k by') (hx : Is k bx X) (hy : Is k by' Y)
    (hK : ∀ r n, Is k r (fop .sub k X Y) → wpList P ops Q rest (a.put dst (.float k r)) (w.drewN n)) :
    wpList P ops Q (⟨dst, .binOp .sub t x y t', ty, pos, after, guard⟩ :: rest) a w := wpList_fop (by simp) hw ex ey hx hy hK
theorem wpList_fmul {k : FloatKind} {bx by' X Y : Nat}
    (hw : Region.wanted ⟨dst, .binOp .mul t x y t', ty, pos, after, guard⟩ (yielded ops a.tmps) = true) (ex : a.eval x = .float k bx) (ey : a.eval y = .float k by') (hx : Is k bx X) (hy : Is k by' Y)
    (hK : ∀ r n, Is k r (fop .mul k X Y) → wpList P ops Q rest (a.put dst (.float k r)) (w.drewN n)) :
    wpList P ops Q (⟨dst, .binOp .mul t x y t', ty, pos, after, guard⟩ :: rest) a w := wpList_fop (by simp) hw ex ey hx hy hK
theorem wpList_fquo {k : FloatKind} {bx by' X Y : Nat}
    (hw : Region.wanted ⟨dst, .binOp .quo t x y t', ty, pos, after, guard⟩ (yielded ops a.tmps) = true) (ex : a.eval x = .float k bx) (ey : a.eval y = .float k by') (hx : Is k bx X) (hy : Is k by' Y)
    (hK : ∀ r n, Is k r (fop .quo k X Y) → wpList P ops Q rest (a.put dst (.float k r)) (w.drewN n)) :
    wpList P ops Q (⟨dst, .binOp .quo t x y t', ty, pos, after, guard⟩ :: rest) a w := wpList_fop (by simp) hw ex ey hx hy hK

theorem ord_is {k : FloatKind} {bx by' X Y : Nat} (hx : Is k bx X) (hy : Is k by' Y) : k.format.order bx by' = k.format.order X Y := by
  rw [← hx.2, ← hy.2, order_cn]

theorem wpList_feq {k : FloatKind} {bx by' X Y : Nat}
    (hw : Region.wanted ⟨dst, .binOp .eql t x y t', ty, pos, after, guard⟩ (yielded ops a.tmps) = true) (ex : a.eval x = .float k bx) (ey : a.eval y = .float k by') (hx : Is k bx X) (hy : Is k by' Y)
    (hK : wpList P ops Q rest (a.put dst (.bool (feq k X Y))) w) :
    wpList P ops Q (⟨dst, .binOp .eql t x y t', ty, pos, after, guard⟩ :: rest) a w :=
  wpList_run (n := 0) hw (run_exec_binOp ex ey (by rw [binOp_float_cmp_eql, ord_is hx hy]; rfl)) hK
theorem wpList_fne {k : FloatKind} {bx by' X Y : Nat}
    (hw : Region.wanted ⟨dst, .binOp .neq t x y t', ty, pos, after, guard⟩ (yielded ops a.tmps) = true) (ex : a.eval x = .float k bx) (ey : a.eval y = .float k by') (hx : Is k bx X) (hy : Is k by' Y)
    (hK : wpList P ops Q rest (a.put dst (.bool (fne k X Y))) w) :
    wpList P ops Q (⟨dst, .binOp .neq t x y t', ty, pos, after, guard⟩ :: rest) a w :=
  wpList_run (n := 0) hw (run_exec_binOp ex ey (by rw [binOp_float_cmp_neq, ord_is hx hy]; rfl)) hK
theorem wpList_flt {k : FloatKind} {bx by' X Y : Nat}
    (hw : Region.wanted ⟨dst, .binOp .lss t x y t', ty, pos, after, guard⟩ (yielded ops a.tmps) = true) (ex : a.eval x = .float k bx) (ey : a.eval y = .float k by') (hx : Is k bx X) (hy : Is k by' Y)
    (hK : wpList P ops Q rest (a.put dst (.bool (flt k X Y))) w) :
    wpList P ops Q (⟨dst, .binOp .lss t x y t', ty, pos, after, guard⟩ :: rest) a w :=
  wpList_run (n := 0) hw (run_exec_binOp ex ey (by rw [binOp_float_cmp_lss, ord_is hx hy]; rfl)) hK
theorem wpList_fle {k : FloatKind} {bx by' X Y : Nat}
    (hw : Region.wanted ⟨dst, .binOp .leq t x y t', ty, pos, after, guard⟩ (yielded ops a.tmps) = true) (ex : a.eval x = .float k bx) (ey : a.eval y = .float k by') (hx : Is k bx X) (hy : Is k by' Y)
    (hK : wpList P ops Q rest (a.put dst (.bool (fle k X Y))) w) :
    wpList P ops Q (⟨dst, .binOp .leq t x y t', ty, pos, after, guard⟩ :: rest) a w :=
  wpList_run (n := 0) hw (run_exec_binOp ex ey (by rw [binOp_float_cmp_leq, ord_is hx hy]; rfl)) hK
theorem wpList_fgt {k : FloatKind} {bx by' X Y : Nat}
    (hw : Region.wanted ⟨dst, .binOp .gtr t x y t', ty, pos, after, guard⟩ (yielded ops a.tmps) = true) (ex : a.eval x = .float k bx) (ey : a.eval y = .float k by') (hx : Is k bx X) (hy : Is k by' Y)
    (hK : wpList P ops Q rest (a.put dst (.bool (fgt k X Y))) w) :
    wpList P ops Q (⟨dst, .binOp .gtr t x y t', ty, pos, after, guard⟩ :: rest) a w :=
  wpList_run (n := 0) hw (run_exec_binOp ex ey (by rw [binOp_float_cmp_gtr, ord_is hx hy]; rfl)) hK
theorem wpList_fge {k : FloatKind} {bx by' X Y : Nat}
    (hw : Region.wanted ⟨dst, .binOp .geq t x y t', ty, pos, after, guard⟩ (yielded ops a.tmps) = true) (ex : a.eval x = .float k bx) (ey : a.eval y = .float k by') (hx : Is k bx X) (hy : Is k by' Y)
    (hK : wpList P ops Q rest (a.put dst (.bool (fge k X Y))) w) :
    wpList P ops Q (⟨dst, .binOp .geq t x y t', ty, pos, after, guard⟩ :: rest) a w :=
  wpList_run (n := 0) hw (run_exec_binOp ex ey (by rw [binOp_float_cmp_geq, ord_is hx hy]; rfl)) hK

/-- 'float64(x)' -/
theorem wpList_widen {src d : TypeId} {us : TypeDesc} (hs : P.underlying src = some us) (hd : P.underlying d = some (.float .f64)) {bx X : Nat}
    (hw : Region.wanted ⟨dst, .convert src d x, ty, pos, after, guard⟩ (yielded ops a.tmps) = true) (ex : a.eval x = .float .f32 bx) (hx : Is .f32 bx X)
    (hK : ∀ r n, Is .f64 r (wid X) → wpList P ops Q rest (a.put dst (.float .f64 r)) (w.drewN n)) :
    wpList P ops Q (⟨dst, .convert src d x, ty, pos, after, guard⟩ :: rest) a w := by
  obtain ⟨r, n, hrun, hr⟩ := run_conv (P := P) w src d .f32 .f64 (by decide) hs hd bx (widen_ok hx.1)
  rw [hx.2] at hr
  refine wpList_run (v := .float .f64 r) (n := n) hw ?_ (hK r n hr)
  simp [execOp, ex, hrun]

/-- 'float32(x)' -/
theorem wpList_narrow {src d : TypeId} {us : TypeDesc} (hs : P.underlying src = some us) (hd : P.underlying d = some (.float .f32)) {bx X : Nat}
    (hw : Region.wanted ⟨dst, .convert src d x, ty, pos, after, guard⟩ (yielded ops a.tmps) = true) (ex : a.eval x = .float .f64 bx) (hx : Is .f64 bx X) (hno : NoOv X)
    (hK : ∀ r n, Is .f32 r (nar X) → wpList P ops Q rest (a.put dst (.float .f32 r)) (w.drewN n)) :
    wpList P ops Q (⟨dst, .convert src d x, ty, pos, after, guard⟩ :: rest) a w := by
  have hno' : isn .f64 bx = true ∨ (floatToFloatBits .f64 bx .f32).isSome = true := by
    by_cases hn : isn .f64 bx = true
    · exact .inl hn
    · have : cn .f64 bx = bx := cn_of_not (by simpa using hn)
      have e : bx = X := by rw [← this]; exact hx.2
      subst e; exact hno
  obtain ⟨r, n, hrun, hr⟩ := run_conv (P := P) w src d .f64 .f32 (by decide) hs hd bx hno'
  rw [hx.2] at hr
  refine wpList_run (v := .float .f32 r) (n := n) hw ?_ (hK r n hr)
  simp [execOp, ex, hrun]

end

attribute [irreducible] feq fne flt fle fgt fge wid nar

end Go.Fl
end

/-
  HOW WORDS STAND TO EACH OTHER: the order of two words that are no not-a-numbers is that of their signed values. (No program here.)
-/
section
set_option linter.unusedVariables false
set_option linter.unusedSimpArgs false
namespace Go.Fl
open Go Ieee

def ng (f : Format) (X : Nat) : Bool := X / f.signWeight % 2 == 1
def rg (f : Format) (X : Nat) : Nat := X % f.signWeight
/-- the signed value, in units of the least place; an infinity stands above all numbers -/
def sv (f : Format) (X : Nat) : Int := if ng f X then -(rv f (rg f X) : Int) else (rv f (rg f X) : Int)

theorem binade_le_inf (f : Format) (h : 1 ≤ f.exponentBits) : f.binade ≤ f.infRung := by
  unfold Format.infRung
  have : 2 ^ 1 ≤ 2 ^ f.exponentBits := two_pow_le h
  exact Nat.le_mul_of_pos_left _ (by omega)

theorem rg_lt (f : Format) (X : Nat) : rg f X < f.signWeight := Nat.mod_lt _ (signWeight_pos f)

theorem read_self (f : Format) (X : Nat) : f.read X = f.read (f.word (ng f X) (rg f X)) := by
  rw [read_word f _ (rg_lt f X)]
  rfl

theorem read_fin' (f : Format) {X : Nat} (h : rg f X < f.infRung) :
    ∃ m e, f.read X = .number (ng f X) m e ∧ f.leastPlace ≤ e ∧ m * 2 ^ (e - f.leastPlace).toNat = rv f (rg f X) ∧ m < 2 * f.binade := by
  obtain ⟨m, e, h1, h2, h3, h4⟩ := read_fin f (ng f X) h
  refine ⟨m, e, ?_, h2, h3, h4⟩
  rw [← h1]; exact read_self f X

theorem read_inf' (f : Format) (he : 1 ≤ f.exponentBits) {X : Nat} (h : rg f X = f.infRung) : f.read X = .infinity (ng f X) := by
  have hb := binade_le_inf f he
  have h0 := read_self f X
  rw [h0, h, read_word f _ f.infRung_lt, if_neg (by omega), if_neg (by omega), if_pos rfl]

theorem read_nan' (f : Format) (he : 1 ≤ f.exponentBits) {X : Nat} (h : f.infRung < rg f X) : ∃ s t, f.read X = .nan s t := by
  have hb := binade_le_inf f he
  have h0 := read_self f X
  rw [h0, read_word f _ (rg_lt f X), if_neg (by omega), if_neg (by omega), if_neg (by omega)]
  exact ⟨_, _, rfl⟩

theorem exb (k : FloatKind) : 1 ≤ k.format.exponentBits := by cases k <;> decide

theorem isn_rg (k : FloatKind) (X : Nat) : isn k X = decide (k.format.infRung < rg k.format X) := by
  rcases Nat.lt_trichotomy (rg k.format X) k.format.infRung with h | h | h
  · obtain ⟨m, e, h1, _⟩ := read_fin' k.format h
    unfold isn FloatKind.decode
    rw [h1, decide_eq_false (by omega)]; rfl
  · unfold isn FloatKind.decode
    rw [read_inf' k.format (exb k) h, decide_eq_false (by omega)]; rfl
  · obtain ⟨s, t, h1⟩ := read_nan' k.format (exb k) h
    unfold isn FloatKind.decode
    rw [h1, decide_eq_true h]; rfl

theorem compare_mul {a b c : Int} (hc : 0 < c) : compare (a * c) (b * c) = compare a b := by
  rcases Int.lt_trichotomy a b with h | h | h
  · have := Int.mul_lt_mul_of_pos_right h hc
    rw [Int.compare_eq_lt.2 h, Int.compare_eq_lt.2 this]
  · subst h; simp
  · have := Int.mul_lt_mul_of_pos_right h hc
    rw [Int.compare_eq_gt.2 h, Int.compare_eq_gt.2 this]

theorem signed_mul (s : Bool) (m i j : Nat) : signed s m i * (2 ^ j : Nat) = signed s m (i + j) := by
  unfold signed
  rw [Nat.shiftLeft_eq, Nat.shiftLeft_eq, Nat.pow_add]
  cases s
  · simp [Int.mul_assoc]
  · simp [Int.mul_assoc, Int.neg_mul]

theorem order_sv (f : Format) (he : 1 ≤ f.exponentBits) {X Y : Nat} (hX : rg f X ≤ f.infRung) (hY : rg f Y ≤ f.infRung) :
    f.order X Y = some (compare (sv f X) (sv f Y)) := by
  have pos : ∀ r, r < f.infRung → rv f r < rv f f.infRung := fun r h => rv_lt f h
  unfold Format.order
  rcases Nat.eq_or_lt_of_le hX with hX | hX
  · rw [read_inf' f he hX]
    rcases Nat.eq_or_lt_of_le hY with hY | hY
    · rw [read_inf' f he hY]
      unfold sv Datum.order
      rw [hX, hY]
      have h0 : 0 < rv f f.infRung := by have := pos 0 (by have := binade_le_inf f he; have := binade_pos f; omega); omega
      cases ng f X <;> cases ng f Y <;> simp only [Bool.false_eq_true, if_false, if_true]
      · simp
      · rw [Int.compare_eq_gt.2 (by omega)]; rfl
      · rw [Int.compare_eq_lt.2 (by omega)]; rfl
      · simp
    · obtain ⟨m, e, h1, _, h3, _⟩ := read_fin' f hY
      rw [h1]
      have hp := pos _ hY
      unfold sv
      rw [hX]
      cases hx : ng f X <;> cases hy : ng f Y <;> simp only [Datum.order, Bool.false_eq_true, if_false, if_true, Option.some.injEq]
      · rw [Int.compare_eq_gt.2 (by omega)]
      · rw [Int.compare_eq_gt.2 (by omega)]
      · rw [Int.compare_eq_lt.2 (by omega)]
      · rw [Int.compare_eq_lt.2 (by omega)]
  · obtain ⟨m, i, h1, h2, h3, _⟩ := read_fin' f hX
    rw [h1]
    rcases Nat.eq_or_lt_of_le hY with hY | hY
    · rw [read_inf' f he hY]
      have hp := pos _ hX
      unfold sv
      rw [hY]
      cases hx : ng f X <;> cases hy : ng f Y <;> simp only [Datum.order, Bool.false_eq_true, if_false, if_true, Option.some.injEq]
      · rw [Int.compare_eq_lt.2 (by omega)]
      · rw [Int.compare_eq_gt.2 (by omega)]
      · rw [Int.compare_eq_lt.2 (by omega)]
      · rw [Int.compare_eq_gt.2 (by omega)]
    · obtain ⟨n, j, g1, g2, g3, _⟩ := read_fin' f hY
      rw [g1]
      simp only [Datum.order, Option.some.injEq]
      have e1 : sv f X = signed (ng f X) m (i - min i j).toNat * (2 ^ (min i j - f.leastPlace).toNat : Nat) := by
        rw [signed_mul]
        have : (i - min i j).toNat + (min i j - f.leastPlace).toNat = (i - f.leastPlace).toNat := by omega
        rw [this]
        unfold sv signed
        rw [Nat.shiftLeft_eq, h3]
      have e2 : sv f Y = signed (ng f Y) n (j - min i j).toNat * (2 ^ (min i j - f.leastPlace).toNat : Nat) := by
        rw [signed_mul]
        have : (j - min i j).toNat + (min i j - f.leastPlace).toNat = (j - f.leastPlace).toNat := by omega
        rw [this]
        unfold sv signed
        rw [Nat.shiftLeft_eq, g3]
      rw [e1, e2, compare_mul (by have := Nat.two_pow_pos (min i j - f.leastPlace).toNat; omega)]

/-- the comparisons, as numbers -/
theorem order_cases (k : FloatKind) (X Y : Nat) : k.format.order X Y = if isn k X = true ∨ isn k Y = true then none else some (compare (sv k.format X) (sv k.format Y)) := by
  by_cases h1 : isn k X = true
  · rw [if_pos (.inl h1), order_nan_left h1]
  · by_cases h2 : isn k Y = true
    · rw [if_pos (.inr h2), order_nan_right h2]
    · rw [if_neg (by simp [h1, h2])]
      rw [isn_rg] at h1 h2
      simp only [decide_eq_true_eq, Nat.not_lt] at h1 h2
      exact order_sv k.format (exb k) h1 h2

theorem feq_iff (k : FloatKind) (X Y : Nat) : feq k X Y = true ↔ isn k X = false ∧ isn k Y = false ∧ sv k.format X = sv k.format Y := by
  unfold feq; rw [order_cases]
  cases isn k X <;> cases isn k Y <;> simp
theorem fne_iff (k : FloatKind) (X Y : Nat) : fne k X Y = true ↔ isn k X = true ∨ isn k Y = true ∨ sv k.format X ≠ sv k.format Y := by
  unfold fne; rw [order_cases]
  cases isn k X <;> cases isn k Y <;> simp
theorem flt_iff (k : FloatKind) (X Y : Nat) : flt k X Y = true ↔ isn k X = false ∧ isn k Y = false ∧ sv k.format X < sv k.format Y := by
  unfold flt; rw [order_cases]
  cases isn k X <;> cases isn k Y <;> simp [Int.compare_eq_lt]
theorem fgt_iff (k : FloatKind) (X Y : Nat) : fgt k X Y = true ↔ isn k X = false ∧ isn k Y = false ∧ sv k.format Y < sv k.format X := by
  unfold fgt; rw [order_cases]
  cases isn k X <;> cases isn k Y <;> simp [Int.compare_eq_gt]
theorem fle_iff (k : FloatKind) (X Y : Nat) : fle k X Y = true ↔ isn k X = false ∧ isn k Y = false ∧ sv k.format X ≤ sv k.format Y := by
  unfold fle; rw [order_cases]
  cases isn k X <;> cases isn k Y <;> simp [Int.compare_eq_lt]
  omega
theorem fge_iff (k : FloatKind) (X Y : Nat) : fge k X Y = true ↔ isn k X = false ∧ isn k Y = false ∧ sv k.format Y ≤ sv k.format X := by
  unfold fge; rw [order_cases]
  cases isn k X <;> cases isn k Y <;> simp [Int.compare_eq_gt]
  omega

end Go.Fl
end

/-
  CANONICAL WORDS: when two are one; when their values are one. (No program here.)
-/
section
set_option linter.unusedVariables false
set_option linter.unusedSimpArgs false
namespace Go.Fl
open Go Ieee

def Can (k : FloatKind) (X : Nat) : Prop := X < 2 ^ k.format.width ∧ cn k X = X

theorem cn_lt {k : FloatKind} {b : Nat} (h : b < 2 ^ k.format.width) : cn k b < 2 ^ k.format.width := by
  unfold cn
  split
  · exact qn_lt k
  · exact h

theorem Is.can {k : FloatKind} {b X : Nat} (h : Is k b X) : Can k X := by
  refine ⟨?_, ?_⟩
  · rw [← h.2]; exact cn_lt h.1
  · rw [← h.2]; exact cn_cn k b

theorem Can.nan {k : FloatKind} {X : Nat} (h : Can k X) (hn : isn k X = true) : X = qn k := by
  rw [← h.2]; exact cn_of hn

theorem fop_can (op : BinOp) (k : FloatKind) (X Y : Nat) : Can k (fop op k X Y) := by
  unfold fop
  cases h : floatBits op k X Y with
  | none => exact ⟨qn_lt k, by rw [Option.getD_none, cn_of (isn_qn k)]⟩
  | some r => exact ⟨floatBits_lt h, cn_of_not (floatBits_not_nan h)⟩

theorem word_of {k : FloatKind} {X : Nat} (h : X < 2 ^ k.format.width) : X = k.format.word (ng k.format X) (rg k.format X) := word_parts k.format h

theorem rv_zero (f : Format) : rv f 0 = 0 := by
  have := binade_pos f
  simp [rv, this]

theorem rv_pos (f : Format) {r : Nat} (h : 0 < r) : 0 < rv f r := by
  have := rv_lt f h
  omega

theorem sv_zero_iff (f : Format) (X : Nat) : sv f X = 0 ↔ rg f X = 0 := by
  unfold sv
  constructor
  · intro h
    rcases Nat.eq_zero_or_pos (rg f X) with g | g
    · exact g
    · have := rv_pos f g
      split at h <;> omega
  · intro h
    rw [h, rv_zero]
    simp

theorem sv_eq (k : FloatKind) {X Y : Nat} (hX : X < 2 ^ k.format.width) (hY : Y < 2 ^ k.format.width) (h : sv k.format X = sv k.format Y) :
    X = Y ∨ (rg k.format X = 0 ∧ rg k.format Y = 0) := by
  by_cases h0 : rg k.format X = 0
  · exact .inr ⟨h0, (sv_zero_iff _ _).1 (by rw [← h]; exact (sv_zero_iff _ _).2 h0)⟩
  · have h1 : rg k.format Y ≠ 0 := fun g => h0 ((sv_zero_iff _ _).1 (by rw [h]; exact (sv_zero_iff _ _).2 g))
    left
    have p1 := rv_pos k.format (show 0 < rg k.format X by omega)
    have p2 := rv_pos k.format (show 0 < rg k.format Y by omega)
    unfold sv at h
    rw [word_of hX, word_of hY]
    cases hx : ng k.format X <;> cases hy : ng k.format Y <;> rw [hx, hy] at h <;> simp only [Bool.false_eq_true, if_false, if_true] at h
    · rw [eq_of_rv_eq k.format (show rv k.format (rg k.format X) = rv k.format (rg k.format Y) by omega)]
    · omega
    · omega
    · rw [eq_of_rv_eq k.format (show rv k.format (rg k.format X) = rv k.format (rg k.format Y) by omega)]

theorem isn_zero : isn .f64 0 = false := by decide +kernel
theorem sv_of_zero (f : Format) : sv f 0 = 0 := by
  rw [sv_zero_iff]; exact Nat.zero_mod _

theorem zero_words {X : Nat} (h : X < 2 ^ FloatKind.f64.format.width) (h0 : rg FloatKind.f64.format X = 0) : X = 0 ∨ X = 9223372036854775808 := by
  have := word_of h
  rw [h0] at this
  cases hg : ng FloatKind.f64.format X
  · left; rw [this, hg]; rfl
  · right; rw [this, hg]; decide +kernel

theorem one_by_zero : fgt .f64 (fop .quo .f64 4607182418800017408 0) 0 = true := by decide +kernel
theorem one_by_minus : fgt .f64 (fop .quo .f64 4607182418800017408 9223372036854775808) 0 = false := by decide +kernel

theorem sf1 {k : FloatKind} {A B : Nat} (hA : Can k A) (hB : Can k B) (h : fne k A A = true) : fne k B B = (A == B) := by
  have ha : isn k A = true := by
    have := (fne_iff k A A).1 h
    simpa using this
  rw [Bool.eq_iff_iff, fne_iff, beq_iff_eq]
  constructor
  · intro g
    have hb : isn k B = true := by simpa using g
    rw [hA.nan ha, hB.nan hb]
  · intro g
    subst g
    exact .inl ha

theorem sf2 {k : FloatKind} {A B : Nat} (h : ¬ fne k A A = true) (g : fne k B B = true) : false = (A == B) := by
  symm
  rw [beq_eq_false_iff_ne]
  intro e
  subst e
  exact h g

section
variable {A B : Nat} (hA : Can .f64 A) (hB : Can .f64 B)
include hA hB

theorem sf3 (h1 : feq .f64 A 0 = true) (h2 : feq .f64 B 0 = true) :
    (fgt .f64 (fop .quo .f64 4607182418800017408 A) 0 == fgt .f64 (fop .quo .f64 4607182418800017408 B) 0) = (A == B) := by
  have z1 := (feq_iff .f64 A 0).1 h1
  have z2 := (feq_iff .f64 B 0).1 h2
  have a0 := zero_words hA.1 ((sv_zero_iff _ _).1 (by rw [z1.2.2]; exact sv_of_zero _))
  have b0 := zero_words hB.1 ((sv_zero_iff _ _).1 (by rw [z2.2.2]; exact sv_of_zero _))
  rcases a0 with rfl | rfl <;> rcases b0 with rfl | rfl <;> simp only [one_by_zero, one_by_minus] <;> decide

theorem sf4 (h1 : ¬ fne .f64 A A = true) (h2 : fne .f64 B B = false) (hz : ¬ (feq .f64 A 0 = true ∧ feq .f64 B 0 = true)) : feq .f64 A B = (A == B) := by
  have n1 : isn .f64 A = false := by
    cases h : isn .f64 A
    · rfl
    · exact absurd ((fne_iff .f64 A A).2 (.inl h)) h1
  have n2 : isn .f64 B = false := by
    cases h : isn .f64 B
    · rfl
    · rw [(fne_iff .f64 B B).2 (.inl h)] at h2; cases h2
  rw [Bool.eq_iff_iff, feq_iff, beq_iff_eq]
  constructor
  · rintro ⟨_, _, h⟩
    rcases sv_eq .f64 hA.1 hB.1 h with g | ⟨g1, g2⟩
    · exact g
    · exfalso
      refine hz ⟨(feq_iff _ _ _).2 ⟨n1, isn_zero, ?_⟩, (feq_iff _ _ _).2 ⟨n2, isn_zero, ?_⟩⟩
      · rw [(sv_zero_iff _ _).2 g1, sv_of_zero]
      · rw [(sv_zero_iff _ _).2 g2, sv_of_zero]
  · rintro rfl
    exact ⟨n1, n1, rfl⟩

theorem sf5 (h1 : ¬ fne .f64 A A = true) (h2 : fne .f64 B B = false) (_h3 : feq .f64 A 0 = true) (h4 : feq .f64 B 0 = false) : feq .f64 A B = (A == B) :=
  sf4 hA hB h1 h2 (by simp [h4])
theorem sf6 (h1 : ¬ fne .f64 A A = true) (h2 : fne .f64 B B = false) (h3 : ¬ feq .f64 A 0 = true) : feq .f64 A B = (A == B) :=
  sf4 hA hB h1 h2 (by simp [h3])
end

theorem ret_bool {a b : Bool} (h : a = b) : Ending.returned (.bool a) = .returned (.bool b) := by rw [h]

end Go.Fl
end

/-
  CANONICAL WORDS: widening, absolute values, signs, subnormal numbers. (No program here.)
-/
section
set_option exponentiation.threshold 3000
set_option linter.unusedVariables false
set_option linter.unusedSimpArgs false
namespace Go.Fl
open Go Ieee

theorem w32 : 2 ^ FloatKind.f32.format.width = 4294967296 := by decide +kernel
theorem w64 : 2 ^ FloatKind.f64.format.width = 18446744073709551616 := by decide +kernel
theorem rg32 (X : Nat) : rg FloatKind.f32.format X = X % 2147483648 := by
  show X % Ieee.single.signWeight = _; rw [sw32]
theorem rg64 (X : Nat) : rg FloatKind.f64.format X = X % 9223372036854775808 := by
  show X % Ieee.double.signWeight = _; rw [sw64]
theorem ng32 (X : Nat) : ng FloatKind.f32.format X = (X / 2147483648 % 2 == 1) := by
  show (X / Ieee.single.signWeight % 2 == 1) = _; rw [sw32]
theorem ng64 (X : Nat) : ng FloatKind.f64.format X = (X / 9223372036854775808 % 2 == 1) := by
  show (X / Ieee.double.signWeight % 2 == 1) = _; rw [sw64]
theorem isn32 (X : Nat) : isn .f32 X = decide (2139095040 < X % 2147483648) := by
  rw [isn_rg, rg32]; show decide (Ieee.single.infRung < _) = _; rw [inf32]
theorem isn64 (X : Nat) : isn .f64 X = decide (9218868437227405312 < X % 9223372036854775808) := by
  rw [isn_rg, rg64]; show decide (Ieee.double.infRung < _) = _; rw [inf64]

/-- the absolute value -/
def fabs (X : Nat) : Nat := X % 9223372036854775808

theorem fabs_is {x X : Nat} (h : Is .f64 x X) : Is .f64 (x % 9223372036854775808) (fabs X) := by
  refine ⟨?_, ?_⟩
  · rw [w64]; omega
  · have e : isn .f64 (x % 9223372036854775808) = isn .f64 x := by rw [isn64, isn64, Nat.mod_mod]
    by_cases hn : isn .f64 x = true
    · have hX : X = qn .f64 := by rw [← h.2]; exact cn_of hn
      rw [cn_of (by rw [e]; exact hn), hX]; decide +kernel
    · have hX : x = X := by rw [← h.2]; exact (cn_of_not (by simpa using hn)).symm
      rw [cn_of_not (by rw [e]; simpa using hn), hX]; rfl

/-- what a 32-bit word becomes -/
theorem wid_nan {X : Nat} (h : isn .f32 X = true) : wid X = qn .f64 := by
  unfold wid; rw [conv_nan (by decide) h]; rfl
theorem wid_cases {X : Nat} (h : X < 4294967296) (hn : isn .f32 X = false) :
    ∃ r0, r0 ≤ 9218868437227405312 ∧ wid X = Ieee.double.word (ng FloatKind.f32.format X) r0 ∧
      (X % 2147483648 < 2139095040 → r0 < 9218868437227405312 ∧ rv Ieee.double r0 = rv Ieee.single (X % 2147483648) * 2 ^ 925) ∧
      (X % 2147483648 = 2139095040 → r0 = 9218868437227405312) := by
  have hw : X = Ieee.single.word (ng FloatKind.f32.format X) (X % 2147483648) := by
    have := word_of (k := .f32) (X := X) (by rw [w32]; exact h)
    rw [rg32] at this; exact this
  rw [isn32, decide_eq_false_iff_not] at hn
  rcases Nat.lt_or_ge (X % 2147483648) 2139095040 with g | g
  · obtain ⟨r0, h1, h2, h3⟩ := widen_fin (ng FloatKind.f32.format X) g
    refine ⟨r0, by omega, ?_, fun _ => ⟨h1, h2⟩, fun h => by omega⟩
    rw [← hw] at h3
    unfold wid; rw [h3]; rfl
  · have g' : X % 2147483648 = 2139095040 := by omega
    refine ⟨9218868437227405312, Nat.le_refl _, ?_, fun h => by omega, fun _ => rfl⟩
    have hr : FloatKind.f32.decode X = .infinity (ng FloatKind.f32.format X) := by
      show Ieee.single.read X = _
      refine read_inf' Ieee.single (by decide) ?_
      rw [inf32]
      show X % Ieee.single.signWeight = _
      rw [sw32]; exact g'
    unfold wid floatToFloatBits
    rw [if_neg (by decide), hr]
    rfl

theorem word64_lt {neg : Bool} {r : Nat} (h : r ≤ 9218868437227405312) : Ieee.double.word neg r < 18446744073709551616 ∧ Ieee.double.word neg r % 9223372036854775808 = r ∧ Ieee.double.word neg r / 9223372036854775808 = neg.toNat := by
  unfold Ieee.Format.word
  rw [sw64]
  cases neg
  · simp only [Bool.false_eq_true, if_false, Bool.toNat_false]; omega
  · simp only [if_true, Bool.toNat_true]; omega

theorem wid_can (X : Nat) : Can .f64 (wid X) := by
  unfold wid
  cases h : floatToFloatBits .f32 X .f64 with
  | none => exact ⟨by rw [Option.getD_none]; exact qn_lt _, by rw [Option.getD_none, cn_of (isn_qn _)]⟩
  | some r =>
    obtain ⟨h1, h2⟩ := conv_not_nan (by decide) h
    exact ⟨h2, cn_of_not h1⟩

theorem wid_num {X : Nat} (h : X < 4294967296) (hn : isn .f32 X = false) : isn .f64 (wid X) = false := by
  obtain ⟨r0, h1, h2, _, _⟩ := wid_cases h hn
  rw [h2, isn64, (word64_lt h1).2.1]
  exact decide_eq_false (by omega)

/-- the sign is kept -/
theorem wid_sign {X : Nat} (h : X < 4294967296) (hn : isn .f32 X = false) : decide (9223372036854775808 ≤ wid X) = decide (2147483648 ≤ X) := by
  obtain ⟨r0, h1, h2, _, _⟩ := wid_cases h hn
  obtain ⟨g1, g2, g3⟩ := word64_lt (neg := ng FloatKind.f32.format X) h1
  rw [← h2] at g1 g2 g3
  rw [ng32] at g3
  by_cases hs : 2147483648 ≤ X
  · rw [decide_eq_true hs]
    have e : X / 2147483648 = 1 := by omega
    rw [e] at g3
    have : wid X / 9223372036854775808 = 1 := g3
    exact decide_eq_true (by omega)
  · rw [decide_eq_false hs]
    have e : X / 2147483648 = 0 := by omega
    rw [e] at g3
    have : wid X / 9223372036854775808 = 0 := g3
    exact decide_eq_false (by omega)

theorem can32_lt {X : Nat} (h : Can .f32 X) : X < 4294967296 := by have := h.1; rw [w32] at this; exact this
theorem can64_lt {X : Nat} (h : Can .f64 X) : X < 18446744073709551616 := by have := h.1; rw [w64] at this; exact this

/-- THE LAW of SameNumber -/
theorem same_law {A B : Nat} (hA : Can .f32 A) (hB : Can .f32 B) (na : isn .f32 A = false) (nb : isn .f32 B = false) :
    (feq .f32 A B && (decide (9223372036854775808 ≤ wid A) == decide (9223372036854775808 ≤ wid B))) = (A == B) := by
  rw [wid_sign (can32_lt hA) na, wid_sign (can32_lt hB) nb, Bool.eq_iff_iff, Bool.and_eq_true, beq_iff_eq, beq_iff_eq, feq_iff]
  constructor
  · rintro ⟨⟨_, _, h⟩, hs⟩
    rcases sv_eq .f32 hA.1 hB.1 h with g | ⟨g1, g2⟩
    · exact g
    · rw [rg32] at g1 g2
      have a := can32_lt hA
      have b := can32_lt hB
      by_cases h1 : 2147483648 ≤ A
      · rw [decide_eq_true h1] at hs
        have h2 := of_decide_eq_true hs.symm
        omega
      · rw [decide_eq_false h1] at hs
        have h2 := of_decide_eq_false hs.symm
        omega
  · rintro rfl
    exact ⟨⟨na, na, rfl⟩, rfl⟩

/-- the exponent field of a 32-bit word is nought where its rung lies in the first binade -/
theorem expo_zero (X : Nat) : (X &&& 2139095040 = 0) ↔ X % 2147483648 < 8388608 := by
  have e : X &&& 2139095040 = (X / 8388608 % 256) * 8388608 := by
    apply Nat.eq_of_testBit_eq
    intro i
    have h1 : (2139095040 : Nat) = 255 <<< 23 := by decide
    have h2 : X / 8388608 % 256 * 8388608 = ((X >>> 23) % 2 ^ 8) <<< 23 := by rw [Nat.shiftLeft_eq, Nat.shiftRight_eq_div_pow]
    rw [h1, h2]
    simp only [Nat.testBit_and, Nat.testBit_shiftLeft, Nat.testBit_mod_two_pow, Nat.testBit_shiftRight]
    by_cases hi : 23 ≤ i
    · have e1 : 23 + (i - 23) = i := by omega
      rw [e1]
      have e3 : Nat.testBit 255 (i - 23) = decide (i - 23 < 8) := by
        have : (255 : Nat) = 2 ^ 8 - 1 := by decide
        rw [this, Nat.testBit_two_pow_sub_one]
      rw [e3]
      cases Nat.testBit X i <;> simp [hi]
    · simp [hi]
  rw [e]
  omega

theorem rv_one : rv Ieee.single 8388608 = 8388608 := by decide +kernel
theorem rv_tiny : rv Ieee.double 4039728865751334912 = 8388608 * 2 ^ 925 := by decide +kernel

theorem sv_pos64 {r : Nat} (h : r < 9223372036854775808) : sv FloatKind.f64.format r = (rv Ieee.double r : Int) := by
  unfold sv
  rw [ng64, rg64]
  have e : (r / 9223372036854775808 % 2 == 1) = false := by rw [Nat.div_eq_of_lt h]; rfl
  rw [e, Nat.mod_eq_of_lt h]
  rfl

/-- THE LAW of IsSubnormal -/
theorem subnormal_law {X : Nat} (hX : Can .f32 X) : flt .f64 (fabs (wid X)) 4039728865751334912 = decide (X &&& 2139095040 = 0) := by
  have hlt := can32_lt hX
  rw [Bool.eq_iff_iff, decide_eq_true_eq, expo_zero, flt_iff]
  have nc : isn .f64 4039728865751334912 = false := by decide +kernel
  by_cases hn : isn .f32 X = true
  · have hq := hX.nan hn
    rw [wid_nan hn, hq]
    have h1 : isn .f64 (fabs (qn .f64)) = true := by decide +kernel
    have h2 : ¬ (qn .f32 % 2147483648 < 8388608) := by decide +kernel
    simp [h1, h2]
  · have hn' : isn .f32 X = false := by simpa using hn
    obtain ⟨r0, h1, h2, h3, h4⟩ := wid_cases hlt hn'
    have ef : fabs (wid X) = r0 := by unfold fabs; rw [h2]; exact (word64_lt h1).2.1
    rw [ef]
    have n0 : isn .f64 r0 = false := by rw [isn64]; exact decide_eq_false (by omega)
    rw [sv_pos64 (by omega), sv_pos64 (by omega), rv_tiny]
    have hr : X % 2147483648 ≤ 2139095040 := by rw [isn32, decide_eq_false_iff_not] at hn'; omega
    rcases Nat.eq_or_lt_of_le hr with g | g
    · have := h4 g
      subst this
      have hbig : ¬ (rv Ieee.double 9218868437227405312 < 8388608 * 2 ^ 925) := by
        have := rv_le Ieee.double (show 4039728865751334912 ≤ 9218868437227405312 by decide)
        rw [rv_tiny] at this; exact Nat.not_lt.2 this
      constructor
      · rintro ⟨_, _, h⟩; exact absurd (Int.ofNat_lt.1 h) hbig
      · intro h; omega
    · obtain ⟨_, h5⟩ := h3 g
      rw [h5]
      have hp : 0 < 2 ^ 925 := Nat.two_pow_pos _
      constructor
      · rintro ⟨_, _, h⟩
        have h' : rv Ieee.single (X % 2147483648) * 2 ^ 925 < 8388608 * 2 ^ 925 := by exact_mod_cast h
        have h6 := Nat.lt_of_mul_lt_mul_right h'
        exact lt_of_rv_lt Ieee.single (by rw [rv_one]; exact h6)
      · intro h
        refine ⟨n0, nc, ?_⟩
        have h6 := rv_lt Ieee.single h
        rw [rv_one] at h6
        have h7 : rv Ieee.single (X % 2147483648) * 2 ^ 925 < 8388608 * 2 ^ 925 := Nat.mul_lt_mul_of_pos_right h6 hp
        exact_mod_cast h7

/-- '&' of two int64 that are not negative -/
theorem and_i64 (a b : Nat) (ha : a < 9223372036854775808) (hb : b < 9223372036854775808) : bits .and .i64 (a : Int) (b : Int) = ((a &&& b : Nat) : Int) := by
  have hle : a &&& b ≤ a := Nat.and_le_left
  have key : (BitVec.ofInt 64 (a : Int) &&& BitVec.ofInt 64 (b : Int)).toNat = a &&& b := by
    rw [BitVec.toNat_and, BitVec.toNat_ofInt, BitVec.toNat_ofInt]
    congr 1 <;> omega
  show IntKind.i64.wrap ((BitVec.ofInt 64 (a : Int) &&& BitVec.ofInt 64 (b : Int)).toNat : Nat) = _
  rw [key, IntKind.wrap_i64]
  omega

attribute [irreducible] fabs

end Go.Fl
end

/-
  CONTRACTS: the laws' own 'sameFloat'; Go's library on the bits of floats; comparing numbers.
-/
section
set_option linter.unusedSimpArgs false
namespace Go.Proofs.Ytianaalokclklaa
open Go.RowKit Go.Fl

end Go.Proofs.Ytianaalokclklaa
end

/-
  CONTRACTS: the bits of 32-bit numbers; sameness; from bits.
-/
section
set_option linter.unusedSimpArgs false
namespace Go.Proofs.Ytianaalokclklaa
open Go.RowKit Go.Fl

@[go_sem] theorem F32bits_run (b : Nat) (w : World) : (callFunc 41 #[.float .f32 b]).run Try.prog w = .ok (.value (.int .u32 b)) w := by
  rw [run_callFunc_extern (e := Extern.MathFloatBits.float32bits) Try.func41 (by kernel_rfl) (by kernel_rfl) (by kernel_rfl) (by kernel_rfl)]; rfl
@[go_sem] theorem F64bits_run (b : Nat) (w : World) : (callFunc 30 #[.float .f64 b]).run Try.prog w = .ok (.value (.int .u64 b)) w := by
  rw [run_callFunc_extern (e := Extern.MathFloatBits.float64bits) Try.func30 (by kernel_rfl) (by kernel_rfl) (by kernel_rfl) (by kernel_rfl)]; rfl
@[go_sem] theorem F64from_run (n : Int) (w : World) : (callFunc 29 #[.int .u64 n]).run Try.prog w = .ok (.value (.float .f64 n.toNat)) w := by
  rw [run_callFunc_extern (e := Extern.MathFloatBits.float64frombits) Try.func29 (by kernel_rfl) (by kernel_rfl) (by kernel_rfl) (by kernel_rfl)]; rfl

theorem is32_le {x X : Nat} (h : Is .f32 x X) : (x : Int) ≤ 4294967295 := by
  have w32 : 2 ^ FloatKind.f32.format.width = 4294967296 := by decide +kernel
  have := h.1
  omega
theorem is64_le {x X : Nat} (h : Is .f64 x X) : (x : Int) ≤ 18446744073709551615 := by
  have w64 : 2 ^ FloatKind.f64.format.width = 18446744073709551616 := by decide +kernel
  have := h.1
  omega

theorem is_wf {k : FloatKind} {b : Nat} (h : (Lit.float k b).wf = true) : Is k b (cn k b) := by
  have w32 : 2 ^ FloatKind.f32.format.width = 4294967296 := by decide +kernel
  have w64 : 2 ^ FloatKind.f64.format.width = 18446744073709551616 := by decide +kernel
  refine ⟨?_, rfl⟩
  cases k
  · rw [w32]; simpa [Lit.wf] using h
  · rw [w64]; simpa [Lit.wf] using h

theorem isn_of_fne {k : FloatKind} {X : Nat} (hn : fne k X X = true) : isn k X = true := by
  have := (fne_iff k X X).1 hn; simpa using this
theorem num_of_fne {k : FloatKind} {X : Nat} (hn : fne k X X = false) : isn k X = false := by
  cases g : isn k X
  · rfl
  · rw [(fne_iff k X X).2 (.inl g)] at hn; cases hn

theorem is_nan {k : FloatKind} {x X : Nat} (h : Is k x X) (hn : fne k X X = true) : X = qn k := h.can.nan (isn_of_fne hn)
theorem is_num {k : FloatKind} {x X : Nat} (h : Is k x X) (hn : fne k X X = false) : x = X := by
  have h1 : isn k x = false := by
    rw [← isn_cn, h.2]; exact num_of_fne hn
  rw [← h.2, cn_of_not h1]
theorem is_num' {k : FloatKind} {x X : Nat} (h : Is k x X) (hn : ¬ fne k X X = true) : x = X := is_num h (by simpa using hn)

theorem ret_i64 {a b : Int} (h : a = b) : Ending.returned (.int .i64 a) = .returned (.int .i64 b) := by rw [h]

set_option maxHeartbeats 400000 in
theorem l01Bits_any (x X : Nat) (hx : Is .f32 x X) (w : World) : Calls Try.prog 36 #[.float .f32 x] w fun e w' => e = .returned (.int .i64 X) ∧ w = w' := by
  have hb := is32_le hx
  go_enter Try.func36, Try.ntmps36
  go_wp2_with (first | ((with_reducible refine wpList_here ?_); (first | ((with_reducible refine wpList_feq (k := ?_) (bx := ?_) (by' := ?_) (X := ?_) (Y := ?_) ?_ ?_ ?_ ?_ ?_ ?_); rotate_left 5; (first | (with_reducible exact wanted_none) | ((with_reducible refine wanted_some ?_); rfl)); (rfl); (rfl); (first | assumption | ((refine Is.lit ?_); decide +kernel) | (refine Is.ofInt _ _)); (first | assumption | ((refine Is.lit ?_); decide +kernel) | (refine Is.ofInt _ _)); (try simp only [Act.put, List.setIfInBounds_toArray, List.set_cons_succ, List.set_cons_zero, World.drewN_drewN])) | ((with_reducible refine wpList_fne (k := ?_) (bx := ?_) (by' := ?_) (X := ?_) (Y := ?_) ?_ ?_ ?_ ?_ ?_ ?_); rotate_left 5; (first | (with_reducible exact wanted_none) | ((with_reducible refine wanted_some ?_); rfl)); (rfl); (rfl); (first | assumption | ((refine Is.lit ?_); decide +kernel) | (refine Is.ofInt _ _)); (first | assumption | ((refine Is.lit ?_); decide +kernel) | (refine Is.ofInt _ _)); (try simp only [Act.put, List.setIfInBounds_toArray, List.set_cons_succ, List.set_cons_zero, World.drewN_drewN])) | ((with_reducible refine wpList_flt (k := ?_) (bx := ?_) (by' := ?_) (X := ?_) (Y := ?_) ?_ ?_ ?_ ?_ ?_ ?_); rotate_left 5; (first | (with_reducible exact wanted_none) | ((with_reducible refine wanted_some ?_); rfl)); (rfl); (rfl); (first | assumption | ((refine Is.lit ?_); decide +kernel) | (refine Is.ofInt _ _)); (first | assumption | ((refine Is.lit ?_); decide +kernel) | (refine Is.ofInt _ _)); (try simp only [Act.put, List.setIfInBounds_toArray, List.set_cons_succ, List.set_cons_zero, World.drewN_drewN])) | ((with_reducible refine wpList_fle (k := ?_) (bx := ?_) (by' := ?_) (X := ?_) (Y := ?_) ?_ ?_ ?_ ?_ ?_ ?_); rotate_left 5; (first | (with_reducible exact wanted_none) | ((with_reducible refine wanted_some ?_); rfl)); (rfl); (rfl); (first | assumption | ((refine Is.lit ?_); decide +kernel) | (refine Is.ofInt _ _)); (first | assumption | ((refine Is.lit ?_); decide +kernel) | (refine Is.ofInt _ _)); (try simp only [Act.put, List.setIfInBounds_toArray, List.set_cons_succ, List.set_cons_zero, World.drewN_drewN])) | ((with_reducible refine wpList_fgt (k := ?_) (bx := ?_) (by' := ?_) (X := ?_) (Y := ?_) ?_ ?_ ?_ ?_ ?_ ?_); rotate_left 5; (first | (with_reducible exact wanted_none) | ((with_reducible refine wanted_some ?_); rfl)); (rfl); (rfl); (first | assumption | ((refine Is.lit ?_); decide +kernel) | (refine Is.ofInt _ _)); (first | assumption | ((refine Is.lit ?_); decide +kernel) | (refine Is.ofInt _ _)); (try simp only [Act.put, List.setIfInBounds_toArray, List.set_cons_succ, List.set_cons_zero, World.drewN_drewN])) | ((with_reducible refine wpList_fge (k := ?_) (bx := ?_) (by' := ?_) (X := ?_) (Y := ?_) ?_ ?_ ?_ ?_ ?_ ?_); rotate_left 5; (first | (with_reducible exact wanted_none) | ((with_reducible refine wanted_some ?_); rfl)); (rfl); (rfl); (first | assumption | ((refine Is.lit ?_); decide +kernel) | (refine Is.ofInt _ _)); (first | assumption | ((refine Is.lit ?_); decide +kernel) | (refine Is.ofInt _ _)); (try simp only [Act.put, List.setIfInBounds_toArray, List.set_cons_succ, List.set_cons_zero, World.drewN_drewN])))))
  all_goals go_ret
  all_goals first | exact ⟨ret_i64 (by rw [is_nan hx (by assumption)]; rfl), rfl⟩ | exact ⟨ret_i64 (by rw [is_num hx (by assumption)]), rfl⟩ | exact ⟨ret_i64 (by rw [is_num' hx (by assumption)]), rfl⟩
theorem l01Same_any (x X y Y : Nat) (hx : Is .f32 x X) (hy : Is .f32 y Y) (w : World) : Calls Try.prog 26 #[.float .f32 x, .float .f32 y] w fun e w' => e = .returned (.bool (X == Y)) ∧ w = w' := by
  go_enter Try.func26, Try.ntmps26
  go_wp2_with fail
  refine (l01Bits_any _ _ hx _).mono ?_
  rintro e w' ⟨rfl, rfl⟩
  go_wp2_with fail
  refine (l01Bits_any _ _ hy _).mono ?_
  rintro e w' ⟨rfl, rfl⟩
  go_wp2_with fail
  go_ret
  exact ⟨ret_bool (by rw [Bool.eq_iff_iff]; simp; omega), rfl⟩
theorem sSameNumber_any (x X y Y : Nat) (hx : Is .f32 x X) (hy : Is .f32 y Y) (w : World) : Calls Try.prog 13 #[.float .f32 x, .float .f32 y] w fun e w' => e = .returned (.bool (X == Y)) ∧ w = w' := by
  go_enter Try.func13, Try.ntmps13
  go_wp2_with (go_at_call 26; refine (l01Same_any _ _ _ _ hx hy _).mono ?_; rintro e w' ⟨rfl, rfl⟩)
  go_ret
  exact ⟨rfl, rfl⟩
end Go.Proofs.Ytianaalokclklaa
end

/-
  CONTRACTS: Go's math on 64-bit words: Signbit, Abs; sameness; subnormal numbers; from bits.
-/
section
set_option linter.unusedSimpArgs false
namespace Go.Proofs.Ytianaalokclklaa
open Go.RowKit Go.Fl

theorem is_of_num {k : FloatKind} {x X : Nat} (h : Is k x X) (hn : isn k X = false) : x = X := by
  have h1 : isn k x = false := by rw [← isn_cn, h.2]; exact hn
  rw [← h.2, cn_of_not h1]

theorem Abs_any (x : Nat) (hx : (x : Int) ≤ 18446744073709551615) (w : World) : Calls Try.prog 16 #[.float .f64 x] w fun e w' => e = .returned (.float .f64 (x % 9223372036854775808)) ∧ w = w' := by
  have e : (bits BinOp.andNot IntKind.u64 (x : Int) 9223372036854775808).toNat = x % 9223372036854775808 := by
    have h := u64_andNot_nat x 9223372036854775808 (by omega) (by omega)
    rw [show ((9223372036854775808 : Nat) : Int) = 9223372036854775808 from rfl] at h
    rw [h, Int.toNat_natCast]
    exact Nat.and_two_pow_sub_one_eq_mod x 63
  go_enter Try.func16, Try.ntmps16
  go_wp2
  go_ret
  exact ⟨rfl, rfl⟩
theorem same3 {x X y Y r s : Nat} (hx : Is .f32 x X) (hy : Is .f32 y Y) (hr : Is .f64 r (wid X)) (hs : Is .f64 s (wid Y)) (h1 : ¬ fne .f32 X X = true) (h2 : fne .f32 Y Y = false) (h3 : feq .f32 X Y = true) :
    (decide (9223372036854775808 ≤ r) == decide (9223372036854775808 ≤ s)) = (X == Y) := by
  have n1 : isn .f32 X = false := num_of_fne (by simpa using h1)
  have n2 : isn .f32 Y = false := num_of_fne h2
  have l := same_law hx.can hy.can n1 n2
  rw [h3, Bool.true_and] at l
  rw [is_of_num hr (wid_num (can32_lt hx.can) n1), is_of_num hs (wid_num (can32_lt hy.can) n2)]
  exact l
theorem same4 {X Y : Nat} (h1 : ¬ fne .f32 X X = true) (_h2 : fne .f32 Y Y = false) (h3 : ¬ feq .f32 X Y = true) : false = (X == Y) := by
  symm
  rw [beq_eq_false_iff_ne]
  rintro rfl
  exact h3 ((feq_iff _ _ _).2 ⟨num_of_fne (by simpa using h1), num_of_fne (by simpa using h1), rfl⟩)
theorem Absf_any (x X : Nat) (hx : Is .f64 x X) (w : World) : Calls Try.prog 16 #[.float .f64 x] w fun e w' => ∃ r, e = .returned (.float .f64 r) ∧ Is .f64 r (fabs X) ∧ w = w' :=
  (Abs_any x (is64_le hx) w).mono fun _ _ ⟨he, hw⟩ => ⟨_, he, fabs_is hx, hw⟩
theorem ret_t2 {k : FloatKind} {r r' : Nat} {b b' : Bool} (h : r = r') (g : b = b') : Ending.returned (.tuple #[.float k r, .bool b]) = .returned (.tuple #[.float k r', .bool b']) := by rw [h, g]
def bitsOk (n : Int) : Bool := decide (0 ≤ n) && decide (n ≤ 4294967295)
def FBpost (n : Int) (w : World) (e : Ending) (w' : World) : Prop := e = .returned (.tuple #[.float .f32 (if bitsOk n then n.toNat else 0), .bool (bitsOk n)]) ∧ w = w'
def subn (X : Nat) : Bool := fne .f32 X 0 && decide (X &&& 2139095040 = 0)
end Go.Proofs.Ytianaalokclklaa
end

/-
  BOUNDS: what the operations on 64-bit words give lies near the exact result; powers of two bound it. (No program here.)
-/
section
set_option exponentiation.threshold 5000
set_option linter.unusedVariables false
set_option linter.unusedSimpArgs false
namespace Go.Fl
open Go Ieee

/-- a finite 64-bit word -/
def Fin64 (X : Nat) : Prop := X % 9223372036854775808 < 9218868437227405312
/-- its magnitude, in units of 2 to the power of -1074 -/
def mv (X : Nat) : Nat := rv double (X % 9223372036854775808)
/-- its sign -/
def sg (X : Nat) : Bool := ng double X

theorem rgd (X : Nat) : rg double X = X % 9223372036854775808 := by unfold rg; rw [sw64]

theorem Fin64.read {X : Nat} (h : Fin64 X) : ∃ m e, double.read X = .number (sg X) m e ∧ -1074 ≤ e ∧ m * 2 ^ (e - -1074).toNat = mv X ∧ m < 9007199254740992 := by
  obtain ⟨m, e, h1, h2, h3, h4⟩ := read_fin' double (X := X) (by rw [rgd, inf64]; exact h)
  rw [lp64] at h2 h3
  rw [rgd] at h3
  rw [bin64] at h4
  exact ⟨m, e, h1, h2, h3, by omega⟩

/-- 'W' is the word, of whatever sign, to which 'num / den' units are rounded -/
def Near (W num den : Nat) : Prop := W < 18446744073709551616 ∧ W % 9223372036854775808 ≤ 9218868437227405312 ∧ ∀ r0, r0 ≤ 9218868437227405312 →
  (num ≤ rv double r0 * den → W % 9223372036854775808 ≤ r0) ∧ (rv double r0 * den ≤ num → r0 ≤ W % 9223372036854775808)

theorem near_nearest (s : Bool) (mag : Nat) (place : Int) (num den : Nat) (hd : 0 < den)
    (h : mag * 2 ^ (place - -1074).toNat * den = num * 2 ^ (-1074 - place).toNat) : Near (double.nearest s mag place) num den ∧ ng double (double.nearest s mag place) = s := by
  have key : ∃ r, r ≤ 9218868437227405312 ∧ double.nearest s mag place = double.word s r ∧ ∀ r0, r0 ≤ 9218868437227405312 →
      (mag * 2 ^ (place - -1074).toNat ≤ rv double r0 * 2 ^ (-1074 - place).toNat → r ≤ r0) ∧ (rv double r0 * 2 ^ (-1074 - place).toNat ≤ mag * 2 ^ (place - -1074).toNat → r0 ≤ r) := by
    by_cases hm : mag = 0
    · subst hm
      refine ⟨0, Nat.zero_le _, by unfold Format.nearest; simp, fun r0 _ => ⟨fun _ => Nat.zero_le _, fun h => ?_⟩⟩
      rw [Nat.zero_mul] at h
      have hp : 0 < 2 ^ (-1074 - place).toNat := Nat.two_pow_pos _
      have h1 : rv double r0 = 0 := by
        rcases Nat.mul_eq_zero.1 (Nat.le_zero.1 h) with g | g
        · exact g
        · omega
      rcases Nat.eq_zero_or_pos r0 with g | g
      · omega
      · have := rv_pos double g; omega
    · obtain ⟨r, h1, h2, h3⟩ := nearest_between double s mag place (by omega)
      rw [inf64] at h1 h3
      rw [lp64] at h3
      exact ⟨r, h1, h2, h3⟩
  obtain ⟨r, h1, h2, h3⟩ := key
  obtain ⟨g1, g2, g3⟩ := word64_lt (neg := s) h1
  rw [h2]
  refine ⟨⟨g1, by rw [g2]; exact h1, fun r0 hr0 => ?_⟩, ?_⟩
  · rw [g2]
    obtain ⟨a, b⟩ := h3 r0 hr0
    have hp : 0 < 2 ^ (-1074 - place).toNat := Nat.two_pow_pos _
    constructor
    · intro hle
      apply a
      have t : mag * 2 ^ (place - -1074).toNat * den ≤ rv double r0 * 2 ^ (-1074 - place).toNat * den := by
        rw [h]
        have := Nat.mul_le_mul_right (2 ^ (-1074 - place).toNat) hle
        rw [Nat.mul_assoc, Nat.mul_comm den, ← Nat.mul_assoc] at this
        exact this
      exact Nat.le_of_mul_le_mul_right t hd
    · intro hle
      apply b
      have t : rv double r0 * 2 ^ (-1074 - place).toNat * den ≤ mag * 2 ^ (place - -1074).toNat * den := by
        rw [h]
        have := Nat.mul_le_mul_right (2 ^ (-1074 - place).toNat) hle
        rw [Nat.mul_assoc, Nat.mul_comm den, ← Nat.mul_assoc] at this
        exact this
      exact Nat.le_of_mul_le_mul_right t hd
  · have e : ng double (double.word s r) = (double.word s r / 9223372036854775808 % 2 == 1) := by unfold ng; rw [sw64]
    rw [e, g3]
    cases s <;> rfl

/-- signed values -/
def svd (X : Nat) : Int := if sg X then -(mv X : Int) else (mv X : Int)

theorem signed_sv {s : Bool} {m : Nat} {i : Int} {X : Nat} (hs : s = sg X) (hm : m * 2 ^ (i - -1074).toNat = mv X) {base : Int} (hb : -1074 ≤ base) (hi : base ≤ i) :
    signed s m (i - base).toNat * (2 ^ (base - -1074).toNat : Nat) = svd X := by
  rw [signed_mul]
  have : (i - base).toNat + (base - -1074).toNat = (i - -1074).toNat := by omega
  rw [this]
  unfold signed svd
  rw [Nat.shiftLeft_eq, hm, hs]

theorem fop_some {op : BinOp} {k : FloatKind} {X Y r : Nat} (h : floatBits op k X Y = some r) : fop op k X Y = r := by
  unfold fop; rw [h]; rfl

theorem near_sum {X Y : Nat} {d : Datum} (hX : Fin64 X) {n : Nat} {j : Int} {t : Bool} (hj : -1074 ≤ j) {vy : Int}
    (hy : ∀ base : Int, -1074 ≤ base → base ≤ j → signed t n (j - base).toNat * (2 ^ (base - -1074).toNat : Nat) = vy) (hd : (double.read X).sum (.number t n j) = some d) :
    Near (double.write d) (svd X + vy).natAbs 1 ∧ (0 < svd X + vy → ng double (double.write d) = false) := by
  obtain ⟨m, i, h1, h2, h3, _⟩ := hX.read
  rw [h1] at hd
  simp only [Datum.sum, Option.some.injEq] at hd
  subst hd
  have hp : 0 < 2 ^ (min i j - -1074).toNat := Nat.two_pow_pos _
  have e1 := signed_sv rfl h3 (base := min i j) (by omega) (by omega)
  have e2 := hy (min i j) (by omega) (by omega)
  have e3 : (signed (sg X) m (i - min i j).toNat + signed t n (j - min i j).toNat) * (2 ^ (min i j - -1074).toNat : Nat) = svd X + vy := by
    rw [Int.add_mul, e1, e2]
  obtain ⟨g1, g2⟩ := near_nearest (if signed (sg X) m (i - min i j).toNat + signed t n (j - min i j).toNat = 0 then sg X && t else signed (sg X) m (i - min i j).toNat + signed t n (j - min i j).toNat < 0)
    (signed (sg X) m (i - min i j).toNat + signed t n (j - min i j).toNat).natAbs (min i j) (svd X + vy).natAbs 1 (by omega) (by
      have : (-1074 - min i j).toNat = 0 := by omega
      rw [this, Nat.pow_zero, Nat.mul_one, Nat.mul_one, ← e3, Int.natAbs_mul]
      rfl)
  refine ⟨g1, fun hpos => ?_⟩
  show ng double (double.nearest _ _ _) = false
  rw [g2]
  rw [← e3] at hpos
  have hpos' : 0 < signed (sg X) m (i - min i j).toNat + signed t n (j - min i j).toNat := by
    rcases Int.lt_or_le 0 (signed (sg X) m (i - min i j).toNat + signed t n (j - min i j).toNat) with g | g
    · exact g
    · have := Int.mul_le_mul_of_nonneg_right g (show (0 : Int) ≤ (2 ^ (min i j - -1074).toNat : Nat) by omega)
      omega
  rw [if_neg (by omega)]
  exact decide_eq_false (by omega)

theorem near_add {X Y : Nat} (hX : Fin64 X) (hY : Fin64 Y) : Near (fop .add .f64 X Y) (svd X + svd Y).natAbs 1 ∧ (0 < svd X + svd Y → sg (fop .add .f64 X Y) = false) := by
  obtain ⟨n, j, g1, g2, g3, _⟩ := hY.read
  cases hd : (double.read X).sum (double.read Y) with
  | none =>
    obtain ⟨m, i, h1, _⟩ := hX.read
    rw [h1, g1] at hd; simp [Datum.sum] at hd
  | some d =>
    have hf : floatBits .add .f64 X Y = some (double.write d) := by
      show ((double.read X).sum (double.read Y)).map double.write = _
      rw [hd]; rfl
    rw [fop_some hf]
    rw [g1] at hd
    exact near_sum hX (Y := Y) g2 (fun base hb hj => signed_sv rfl g3 hb hj) hd

theorem near_sub {X Y : Nat} (hX : Fin64 X) (hY : Fin64 Y) : Near (fop .sub .f64 X Y) (svd X - svd Y).natAbs 1 ∧ (0 < svd X - svd Y → sg (fop .sub .f64 X Y) = false) := by
  obtain ⟨n, j, g1, g2, g3, _⟩ := hY.read
  cases hd : (double.read X).sum (double.read Y).opposite with
  | none =>
    obtain ⟨m, i, h1, _⟩ := hX.read
    rw [h1, g1] at hd; simp [Datum.sum, Datum.opposite] at hd
  | some d =>
    have hf : floatBits .sub .f64 X Y = some (double.write d) := by
      show ((double.read X).sum (double.read Y).opposite).map double.write = _
      rw [hd]; rfl
    rw [fop_some hf]
    rw [g1] at hd
    have := near_sum hX (Y := Y) (vy := -svd Y) g2 (fun base hb hj => ?_) hd
    · rw [← Int.sub_eq_add_neg] at this; exact this
    · have e := signed_sv (X := Y) rfl g3 hb hj
      rw [← e, ← Int.neg_mul]
      congr 1
      unfold signed
      cases sg Y <;> simp

theorem near_mul {X Y : Nat} (hX : Fin64 X) (hY : Fin64 Y) : Near (fop .mul .f64 X Y) (mv X * mv Y) (2 ^ 1074) ∧ sg (fop .mul .f64 X Y) = (sg X ^^ sg Y) := by
  obtain ⟨m, i, h1, h2, h3, _⟩ := hX.read
  obtain ⟨n, j, g1, g2, g3, _⟩ := hY.read
  have hf : floatBits .mul .f64 X Y = some (double.nearest (sg X ^^ sg Y) (m * n) (i + j)) := by
    show ((double.read X).product (double.read Y)).map double.write = _
    rw [h1, g1]; rfl
  rw [fop_some hf]
  refine near_nearest _ _ _ _ _ (Nat.two_pow_pos _) ?_
  rw [← h3, ← g3]
  obtain ⟨a, ha⟩ : ∃ a : Nat, (i - -1074).toNat = a := ⟨_, rfl⟩
  obtain ⟨b, hb⟩ : ∃ b : Nat, (j - -1074).toNat = b := ⟨_, rfl⟩
  obtain ⟨c, hc⟩ : ∃ c : Nat, (i + j - -1074).toNat = c := ⟨_, rfl⟩
  obtain ⟨d, hd⟩ : ∃ d : Nat, (-1074 - (i + j)).toNat = d := ⟨_, rfl⟩
  rw [ha, hb, hc, hd]
  have hs : c + 1074 = a + b + d := by omega
  calc m * n * 2 ^ c * 2 ^ 1074 = m * n * 2 ^ (c + 1074) := by rw [Nat.pow_add]; ac_rfl
    _ = m * n * 2 ^ (a + b + d) := by rw [hs]
    _ = m * 2 ^ a * (n * 2 ^ b) * 2 ^ d := by rw [Nat.pow_add, Nat.pow_add]; ac_rfl

/-! ### powers of two -/
/-- a finite word whose magnitude is at most 2 to the power of 'p', in units -/
def Bd (X p : Nat) : Prop := X < 18446744073709551616 ∧ Fin64 X ∧ mv X ≤ 2 ^ p

theorem pw_exists {p : Nat} (hp : p ≤ 2044) : ∃ r0, rv double r0 = 2 ^ p ∧ r0 < 9218868437227405312 := by
  obtain ⟨r0, h1, h2⟩ := exists_rung double p 1 (by rw [bin64]; decide)
  have g : r0 < (p + 2) * 4503599627370496 := bin64 ▸ h2
  exact ⟨r0, by rw [h1, Nat.one_mul], Nat.lt_of_lt_of_le g (Nat.le_trans (Nat.mul_le_mul_right _ (show p + 2 ≤ 2046 by omega)) (by decide))⟩

theorem Near.bd {W num den p : Nat} (h : Near W num den) (hp : p ≤ 2044) (hle : num ≤ 2 ^ p * den) : Bd W p := by
  obtain ⟨r0, h1, h2⟩ := pw_exists hp
  obtain ⟨g1, g2, g3⟩ := h
  have := (g3 r0 (by omega)).1 (by rw [h1]; exact hle)
  refine ⟨g1, by unfold Fin64; omega, ?_⟩
  unfold mv
  rw [← h1]
  exact rv_le double this

theorem Near.lo {W num den p : Nat} (h : Near W num den) (hp : p ≤ 2044) (hge : 2 ^ p * den ≤ num) : 2 ^ p ≤ mv W := by
  obtain ⟨r0, h1, h2⟩ := pw_exists hp
  obtain ⟨g1, g2, g3⟩ := h
  have := (g3 r0 (by omega)).2 (by rw [h1]; exact hge)
  unfold mv
  rw [← h1]
  exact rv_le double this

theorem Bd.mono {X p q : Nat} (h : Bd X p) (hpq : p ≤ q) : Bd X q := ⟨h.1, h.2.1, Nat.le_trans h.2.2 (two_pow_le hpq)⟩

theorem svd_abs (X : Nat) : (svd X).natAbs = mv X := by unfold svd; split <;> omega

theorem bd_add {X Y p : Nat} (hX : Bd X p) (hY : Bd Y p) (hp : p + 1 ≤ 2044) : Bd (fop .add .f64 X Y) (p + 1) := by
  refine (near_add hX.2.1 hY.2.1).1.bd hp ?_
  have h1 := hX.2.2
  have h2 := hY.2.2
  have h3 := svd_abs X
  have h4 := svd_abs Y
  rw [Nat.pow_succ]
  omega

theorem bd_sub {X Y p : Nat} (hX : Bd X p) (hY : Bd Y p) (hp : p + 1 ≤ 2044) : Bd (fop .sub .f64 X Y) (p + 1) := by
  refine (near_sub hX.2.1 hY.2.1).1.bd hp ?_
  have h1 := hX.2.2
  have h2 := hY.2.2
  have h3 := svd_abs X
  have h4 := svd_abs Y
  rw [Nat.pow_succ]
  omega

theorem bd_mul {X Y p q r : Nat} (hX : Bd X p) (hY : Bd Y q) (h : p + q ≤ r + 1074) (hr : r ≤ 2044) : Bd (fop .mul .f64 X Y) r := by
  refine (near_mul hX.2.1 hY.2.1).1.bd hr ?_
  rw [← Nat.pow_add]
  refine Nat.le_trans (Nat.mul_le_mul hX.2.2 hY.2.2) ?_
  rw [← Nat.pow_add]
  exact two_pow_le h

theorem bd_quo' {X Y r : Nat} (hX : Fin64 X) (hY : Fin64 Y) (hq : 0 < mv Y) (h : mv X * 2 ^ 1075 ≤ 2 ^ r * mv Y) (hr : r ≤ 2044) :
    Bd (fop .quo .f64 X Y) r ∧ sg (fop .quo .f64 X Y) = (sg X ^^ sg Y) := by
  obtain ⟨m, i, h1, h2, h3, _⟩ := hX.read
  obtain ⟨n, j, g1, g2, g3, _⟩ := hY.read
  have hn : n ≠ 0 := by
    rintro rfl
    rw [Nat.zero_mul] at g3
    omega
  have hn0 : 0 < n := by omega
  obtain ⟨more, hmore⟩ : ∃ more, more = 54 + n.log2 - m.log2 := ⟨_, rfl⟩
  obtain ⟨V, hV⟩ : ∃ V, V = 2 * ((m <<< more) / n) + ((m <<< more) % n != 0).toNat := ⟨_, rfl⟩
  have hf : floatBits .quo .f64 X Y = some (double.nearest (sg X ^^ sg Y) V (i - j - more - 1)) := by
    show ((double.read X).quotient 54 (double.read Y)).map double.write = _
    rw [h1, g1]
    simp only [Datum.quotient, hn, if_false, Option.map_some, Format.write, ← hmore, ← hV]
  rw [fop_some hf]
  have hD : m <<< more = m * 2 ^ more := Nat.shiftLeft_eq _ _
  -- V n is at most four times the dividend
  have hVn : V * n ≤ 4 * (m * 2 ^ more) := by
    rcases Nat.eq_zero_or_pos m with hm | hm
    · have : V = 0 := by rw [hV, hD, hm]; simp
      rw [this]; omega
    · have hge : n ≤ m * 2 ^ more := by
        have a1 : n < 2 ^ (n.log2 + 1) := Nat.lt_log2_self
        have a2 : 2 ^ m.log2 ≤ m := Nat.log2_self_le (by omega)
        have a3 : 2 ^ (m.log2 + more) ≤ m * 2 ^ more := by rw [Nat.pow_add]; exact Nat.mul_le_mul_right _ a2
        have a4 : 2 ^ (n.log2 + 1) ≤ 2 ^ (m.log2 + more) := two_pow_le (by omega)
        omega
      have hdm := Nat.div_mul_le_self (m * 2 ^ more) n
      have hb : ((m * 2 ^ more) % n != 0).toNat ≤ 1 := Bool.toNat_le _
      rw [hD] at hV
      have e : V * n = 2 * ((m * 2 ^ more) / n * n) + ((m * 2 ^ more) % n != 0).toNat * n := by rw [hV, Nat.add_mul, Nat.mul_assoc]
      have hb2 : ((m * 2 ^ more) % n != 0).toNat * n ≤ 1 * n := Nat.mul_le_mul_right _ hb
      omega
  obtain ⟨pl, hpl⟩ : ∃ pl : Int, pl = i - j - more - 1 := ⟨_, rfl⟩
  rw [← hpl]
  obtain ⟨a, ha⟩ : ∃ a : Nat, (pl - -1074).toNat = a := ⟨_, rfl⟩
  obtain ⟨b, hb⟩ : ∃ b : Nat, (-1074 - pl).toNat = b := ⟨_, rfl⟩
  obtain ⟨I, hI⟩ : ∃ I : Nat, (i - -1074).toNat = I := ⟨_, rfl⟩
  obtain ⟨J, hJ⟩ : ∃ J : Nat, (j - -1074).toNat = J := ⟨_, rfl⟩
  have hsum : more + J + a = b + I + 1073 := by omega
  rw [hI] at h3
  rw [hJ] at g3
  obtain ⟨nr, ns⟩ := near_nearest (sg X ^^ sg Y) V pl (V * 2 ^ a) (2 ^ b) (Nat.two_pow_pos _) (by rw [ha, hb])
  refine ⟨nr.bd hr ?_, ns⟩
  have c1 : V * 2 ^ a * (mv Y * 2 ^ I) ≤ 2 ^ r * 2 ^ b * (mv Y * 2 ^ I) := by
    have d1 : V * 2 ^ a * (mv Y * 2 ^ I) = V * n * 2 ^ (a + J + I) := by rw [← g3, Nat.pow_add, Nat.pow_add]; ac_rfl
    have d2 : V * n * 2 ^ (a + J + I) ≤ 4 * (m * 2 ^ more) * 2 ^ (a + J + I) := Nat.mul_le_mul_right _ hVn
    have d3 : 4 * (m * 2 ^ more) * 2 ^ (a + J + I) = m * 2 ^ I * 2 ^ (2 + (more + J + a)) := by
      rw [show (4 : Nat) = 2 ^ 2 from rfl, Nat.pow_add 2 2, Nat.pow_add 2 (more + J), Nat.pow_add 2 more, Nat.pow_add 2 (a + J), Nat.pow_add 2 a]
      ac_rfl
    have d4 : m * 2 ^ I * 2 ^ (2 + (more + J + a)) = mv X * 2 ^ 1075 * 2 ^ (b + I) := by
      rw [h3, Nat.mul_assoc, ← Nat.pow_add]
      congr 2
      omega
    have d5 : mv X * 2 ^ 1075 * 2 ^ (b + I) ≤ 2 ^ r * mv Y * 2 ^ (b + I) := Nat.mul_le_mul_right _ h
    have d6 : 2 ^ r * mv Y * 2 ^ (b + I) = 2 ^ r * 2 ^ b * (mv Y * 2 ^ I) := by rw [Nat.pow_add]; ac_rfl
    rw [d1]
    refine Nat.le_trans d2 ?_
    rw [d3, d4]
    refine Nat.le_trans d5 ?_
    rw [d6]
    exact Nat.le_refl _
  exact Nat.le_of_mul_le_mul_right c1 (Nat.mul_pos hq (Nat.two_pow_pos _))

theorem bd_quo {X Y p q r : Nat} (hX : Bd X p) (hY : Fin64 Y) (hq : 2 ^ q ≤ mv Y) (h : p + 1075 ≤ r + q) (hr : r ≤ 2044) :
    Bd (fop .quo .f64 X Y) r ∧ sg (fop .quo .f64 X Y) = (sg X ^^ sg Y) := by
  refine bd_quo' hX.2.1 hY (Nat.lt_of_lt_of_le (Nat.two_pow_pos q) hq) ?_ hr
  have c1 : mv X * 2 ^ 1075 ≤ 2 ^ p * 2 ^ 1075 := Nat.mul_le_mul_right _ hX.2.2
  have c2 : 2 ^ p * 2 ^ 1075 ≤ 2 ^ r * 2 ^ q := by rw [← Nat.pow_add, ← Nat.pow_add]; exact two_pow_le h
  have c3 : 2 ^ r * 2 ^ q ≤ 2 ^ r * mv Y := Nat.mul_le_mul_left _ hq
  exact Nat.le_trans c1 (Nat.le_trans c2 c3)

/-! ### the square root -/
def fsqrt (X : Nat) : Nat := (double.sqrt X).getD (qn .f64)

theorem rootFrom_sq (n : Nat) : ∀ (todo root : Nat), root * root ≤ n → Datum.rootFrom n todo root * Datum.rootFrom n todo root ≤ n
  | 0, root, h => h
  | todo + 1, root, h => by
    unfold Datum.rootFrom
    dsimp only
    split
    · rename_i g; exact rootFrom_sq n todo _ g
    · exact rootFrom_sq n todo _ h

theorem bd_sqrt {X p r : Nat} (hX : Bd X p) (hs : sg X = false) (h : p + 1076 ≤ 2 * r) (hr : r ≤ 2044) : Bd (fsqrt X) r ∧ sg (fsqrt X) = false := by
  obtain ⟨m, i, h1, h2, h3, _⟩ := hX.2.1.read
  rcases Nat.eq_zero_or_pos m with hm | hm
  · have hf : fsqrt X = double.nearest false 0 i := by
      unfold fsqrt Format.sqrt
      rw [h1, hm, hs]; rfl
    rw [hf]
    obtain ⟨nr, ns⟩ := near_nearest false 0 i 0 1 (by omega) (by simp)
    exact ⟨nr.bd hr (by simp), ns⟩
  · obtain ⟨more0, hmore0⟩ : ∃ more0 : Nat, more0 = 2 * 54 - m.log2 := ⟨_, rfl⟩
    obtain ⟨more, hmore⟩ : ∃ more : Nat, more = more0 + ((i - more0) % 2).toNat := ⟨_, rfl⟩
    obtain ⟨w, hw⟩ : ∃ w, w = Datum.rootFrom (m <<< more) ((m <<< more).log2 / 2 + 1) 0 := ⟨_, rfl⟩
    obtain ⟨V, hV⟩ : ∃ V, V = 2 * w + (w * w != m <<< more).toNat := ⟨_, rfl⟩
    have hf : fsqrt X = double.nearest false V ((i - more) / 2 - 1) := by
      unfold fsqrt Format.sqrt
      rw [h1, hs]
      have hm0 : m ≠ 0 := by omega
      simp only [Datum.root, hm0, if_false, Bool.false_eq_true, Option.map_some, Option.getD_some, Format.write]
      rw [show double.fractionBits + 2 = 54 from rfl, ← hmore0, ← hmore, ← hw, ← hV]
    rw [hf]
    have hD : m <<< more = m * 2 ^ more := Nat.shiftLeft_eq _ _
    have hw2 : w * w ≤ m * 2 ^ more := by rw [hw, ← hD]; exact rootFrom_sq _ _ 0 (by simp)
    have hn1 : 1 ≤ m * 2 ^ more := Nat.mul_pos hm (Nat.two_pow_pos _)
    have hb : (w * w != m <<< more).toNat ≤ 1 := Bool.toNat_le _
    have hVle : V ≤ 2 * w + 1 := by omega
    have hww : w ≤ w * w := by
      rcases Nat.eq_zero_or_pos w with g | g
      · rw [g]; omega
      · exact Nat.le_mul_of_pos_left _ g
    have hV2 : V * V ≤ 16 * (m * 2 ^ more) := by
      have e1 : V * V ≤ (2 * w + 1) * (2 * w + 1) := Nat.mul_le_mul hVle hVle
      have e2 : (2 * w + 1) * (2 * w + 1) = 4 * (w * w) + 4 * w + 1 := by
        rw [Nat.add_mul, Nat.mul_add, Nat.mul_add]
        have : 2 * w * (2 * w) = 4 * (w * w) := by
          rw [show (4 : Nat) = 2 * 2 from rfl]; ac_rfl
        omega
      omega
    obtain ⟨pl, hpl⟩ : ∃ pl : Int, pl = (i - more) / 2 - 1 := ⟨_, rfl⟩
    rw [← hpl]
    have heven : (i - more) / 2 * 2 = i - more := by omega
    obtain ⟨a, ha⟩ : ∃ a : Nat, (pl - -1074).toNat = a := ⟨_, rfl⟩
    obtain ⟨b, hb'⟩ : ∃ b : Nat, (-1074 - pl).toNat = b := ⟨_, rfl⟩
    obtain ⟨I, hI⟩ : ∃ I : Nat, (i - -1074).toNat = I := ⟨_, rfl⟩
    have hsum : more + 2 * a = 2 * b + I + 1072 := by omega
    rw [hI] at h3
    obtain ⟨nr, ns⟩ := near_nearest false V pl (V * 2 ^ a) (2 ^ b) (Nat.two_pow_pos _) (by rw [ha, hb'])
    refine ⟨nr.bd hr ?_, ns⟩
    have hp1 : m * 2 ^ I ≤ 2 ^ p := by rw [h3]; exact hX.2.2
    rcases Nat.lt_or_ge (2 ^ r * 2 ^ b) (V * 2 ^ a) with g | g
    · exfalso
      have g2 := Nat.mul_lt_mul'' g g
      have c1 : V * 2 ^ a * (V * 2 ^ a) * 2 ^ I ≤ 2 ^ r * 2 ^ b * (2 ^ r * 2 ^ b) * 2 ^ I := by
        have d1 : V * 2 ^ a * (V * 2 ^ a) * 2 ^ I = V * V * 2 ^ (2 * a + I) := by rw [Nat.pow_add, Nat.two_mul, Nat.pow_add]; ac_rfl
        have d2 : V * V * 2 ^ (2 * a + I) ≤ 16 * (m * 2 ^ more) * 2 ^ (2 * a + I) := Nat.mul_le_mul_right _ hV2
        have d3 : 16 * (m * 2 ^ more) * 2 ^ (2 * a + I) = m * 2 ^ I * 2 ^ (4 + (more + 2 * a)) := by
          rw [show (16 : Nat) = 2 ^ 4 from rfl, Nat.pow_add 2 4, Nat.pow_add 2 (2 * a), Nat.pow_add 2 more]
          ac_rfl
        have d4 : m * 2 ^ I * 2 ^ (4 + (more + 2 * a)) ≤ 2 ^ p * 2 ^ (4 + (more + 2 * a)) := Nat.mul_le_mul_right _ hp1
        have d5 : 2 ^ p * 2 ^ (4 + (more + 2 * a)) ≤ 2 ^ (r + b + (r + b) + I) := by rw [← Nat.pow_add]; exact two_pow_le (by omega)
        have d6 : 2 ^ (r + b + (r + b) + I) = 2 ^ r * 2 ^ b * (2 ^ r * 2 ^ b) * 2 ^ I := by rw [Nat.pow_add, Nat.pow_add, Nat.pow_add]
        rw [d1]
        refine Nat.le_trans d2 ?_
        rw [d3]
        refine Nat.le_trans d4 (Nat.le_trans d5 ?_)
        rw [d6]
        exact Nat.le_refl _
      have := Nat.le_of_mul_le_mul_right c1 (Nat.two_pow_pos _)
      omega
    · exact g

/-! ### narrowing -/
theorem noOv_of_bd {X p : Nat} (hX : Bd X p) (hp : p ≤ 1201) : NoOv X := by
  right
  obtain ⟨m, e, h1, h2, h3, _⟩ := hX.2.1.read
  have hd : FloatKind.f64.decode X = .number (sg X) m e := h1
  have hinf : (FloatKind.f32.decode (FloatKind.f32.encode (.number (sg X) m e))).isInfinity = false := by
    have key : ∃ r, r < 2139095040 ∧ Ieee.single.nearest (sg X) m e = Ieee.single.word (sg X) r := by
      rcases Nat.eq_zero_or_pos m with hm | hm
      · exact ⟨0, by omega, by unfold Format.nearest; simp [hm]⟩
      · obtain ⟨r, g1, g2, g3⟩ := nearest_between Ieee.single (sg X) m e hm
        obtain ⟨r0, k1, k2⟩ := exists_rung Ieee.single 253 8388608 (by rw [bin32]; decide)
        rw [inf32] at g1 g3
        rw [bin32] at k2
        have hr0 : r0 < 2139095040 := k2
        refine ⟨r, Nat.lt_of_le_of_lt ((g3 r0 (by omega)).1 ?_) hr0, g2⟩
        rw [k1, lp32]
        obtain ⟨a, ha⟩ : ∃ a : Nat, (e - -149).toNat = a := ⟨_, rfl⟩
        obtain ⟨b, hb⟩ : ∃ b : Nat, (-149 - e).toNat = b := ⟨_, rfl⟩
        obtain ⟨E, hE⟩ : ∃ E : Nat, (e - -1074).toNat = E := ⟨_, rfl⟩
        rw [ha, hb]
        rw [hE] at h3
        have hsum : a + 925 = b + E := by omega
        have c : m * 2 ^ a * 2 ^ 925 ≤ 8388608 * 2 ^ 253 * 2 ^ b * 2 ^ 925 := by
          have d1 : m * 2 ^ a * 2 ^ 925 = m * 2 ^ E * 2 ^ b := by rw [Nat.mul_assoc, ← Nat.pow_add, hsum, Nat.pow_add]; ac_rfl
          have d2 : m * 2 ^ E ≤ 2 ^ 1201 := by rw [h3]; exact Nat.le_trans hX.2.2 (two_pow_le hp)
          have d3 : (2 : Nat) ^ 1201 = 8388608 * 2 ^ 253 * 2 ^ 925 := by decide +kernel
          rw [d1]
          refine Nat.le_trans (Nat.mul_le_mul_right _ d2) ?_
          rw [d3]
          have : 8388608 * 2 ^ 253 * 2 ^ 925 * 2 ^ b = 8388608 * 2 ^ 253 * 2 ^ b * 2 ^ 925 := by ac_rfl
          exact Nat.le_of_eq this
        exact Nat.le_of_mul_le_mul_right c (Nat.two_pow_pos _)
    obtain ⟨r, k1, k2⟩ := key
    show (Ieee.single.read (Ieee.single.nearest (sg X) m e)).isInfinity = false
    rw [k2]
    obtain ⟨mm, ee, hr, _⟩ := read_fin Ieee.single (sg X) (r := r) (by rw [inf32]; exact k1)
    rw [hr]; rfl
  unfold floatToFloatBits
  rw [if_neg (by decide), hd]
  simp only [hinf]
  rfl

attribute [irreducible] fsqrt

end Go.Fl
end

/-
  THE WALK's LAWS FOR FLOATS, MORE: the opposite; square roots, whole parts. (No program here.)
-/
section
set_option linter.unusedVariables false
set_option linter.unusedSimpArgs false
namespace Go.Fl
open Go Ieee

/-- the opposite -/
def fneg (k : FloatKind) (X : Nat) : Nat := cn k (Op.negFloat k X)

theorem negFloat_eq (k : FloatKind) (X : Nat) : Op.negFloat k X = X ^^^ k.format.signWeight := rfl

theorem tb1 (i : Nat) : Nat.testBit 1 i = decide (i = 0) := by
  cases i with
  | zero => rfl
  | succ i => simp [Nat.testBit_succ]

theorem xor_pow (X n : Nat) : X ^^^ 2 ^ n = if X / 2 ^ n % 2 = 1 then X - 2 ^ n else X + 2 ^ n := by
  have hp : 0 < 2 ^ n := Nat.two_pow_pos n
  have h1 := Nat.div_add_mod X (2 ^ n)
  have hm : (X ^^^ 2 ^ n) % 2 ^ n = X % 2 ^ n := by
    apply Nat.eq_of_testBit_eq
    intro i
    simp only [Nat.testBit_mod_two_pow, Nat.testBit_xor, Nat.testBit_two_pow]
    by_cases h : i < n
    · have : ¬ n = i := by omega
      simp [h, this]
    · simp [h]
  have hd : (X ^^^ 2 ^ n) / 2 ^ n = X / 2 ^ n ^^^ 1 := by
    apply Nat.eq_of_testBit_eq
    intro i
    rw [← Nat.shiftRight_eq_div_pow, ← Nat.shiftRight_eq_div_pow]
    simp only [Nat.testBit_shiftRight, Nat.testBit_xor, Nat.testBit_two_pow]
    congr 1
    rw [tb1]
    by_cases h : i = 0
    · subst h; simp
    · have : ¬ n = n + i := by omega
      simp [h, this]
  have h2 := Nat.div_add_mod (X ^^^ 2 ^ n) (2 ^ n)
  rw [hm, hd] at h2
  have hx : (X / 2 ^ n) ^^^ 1 = if X / 2 ^ n % 2 = 1 then X / 2 ^ n - 1 else X / 2 ^ n + 1 := by
    generalize X / 2 ^ n = q
    apply Nat.eq_of_testBit_eq
    intro i
    cases i with
    | zero =>
      split
      · rename_i h
        rw [Nat.testBit_xor]
        simp only [Nat.testBit_zero]
        have : (q - 1) % 2 = 0 := by omega
        rw [this, h]; rfl
      · rename_i h
        rw [Nat.testBit_xor]
        simp only [Nat.testBit_zero]
        have h0 : q % 2 = 0 := by omega
        have : (q + 1) % 2 = 1 := by omega
        rw [this, h0]; rfl
    | succ i =>
      rw [Nat.testBit_xor, tb1]
      simp only [Nat.testBit_succ]
      have e : (if q % 2 = 1 then q - 1 else q + 1) / 2 = q / 2 := by split <;> omega
      rw [e]; simp
  rw [hx] at h2
  split
  · rename_i h
    rw [if_pos h] at h2
    have hq : 1 ≤ X / 2 ^ n := Nat.pos_of_ne_zero (by intro e; rw [e] at h; simp at h)
    have : 2 ^ n * (X / 2 ^ n - 1) = 2 ^ n * (X / 2 ^ n) - 2 ^ n := by rw [Nat.mul_sub, Nat.mul_one]
    have : 2 ^ n * 1 ≤ 2 ^ n * (X / 2 ^ n) := Nat.mul_le_mul_left _ hq
    omega
  · rename_i h
    rw [if_neg h, Nat.mul_add, Nat.mul_one] at h2
    omega

theorem neg64 {X : Nat} (h : X < 18446744073709551616) : Op.negFloat .f64 X = if 9223372036854775808 ≤ X then X - 9223372036854775808 else X + 9223372036854775808 := by
  have e := xor_pow X 63
  rw [show (2 : Nat) ^ 63 = 9223372036854775808 from rfl] at e
  have : Op.negFloat .f64 X = X ^^^ 9223372036854775808 := by rw [negFloat_eq]; show X ^^^ double.signWeight = _; rw [sw64]
  rw [this, e]
  by_cases g : 9223372036854775808 ≤ X
  · rw [if_pos g, if_pos (by omega)]
  · rw [if_neg g, if_neg (by omega)]

theorem neg32 {X : Nat} (h : X < 4294967296) : Op.negFloat .f32 X = if 2147483648 ≤ X then X - 2147483648 else X + 2147483648 := by
  have e := xor_pow X 31
  rw [show (2 : Nat) ^ 31 = 2147483648 from rfl] at e
  have : Op.negFloat .f32 X = X ^^^ 2147483648 := by rw [negFloat_eq]; show X ^^^ Ieee.single.signWeight = _; rw [sw32]
  rw [this, e]
  by_cases g : 2147483648 ≤ X
  · rw [if_pos g, if_pos (by omega)]
  · rw [if_neg g, if_neg (by omega)]

theorem isn_neg (k : FloatKind) {X : Nat} (h : X < 2 ^ k.format.width) : isn k (Op.negFloat k X) = isn k X ∧ Op.negFloat k X < 2 ^ k.format.width := by
  cases k
  · rw [w32] at *
    rw [neg32 h, isn32, isn32]
    split
    · exact ⟨by rw [show (X - 2147483648) % 2147483648 = X % 2147483648 by omega], by omega⟩
    · exact ⟨by rw [show (X + 2147483648) % 2147483648 = X % 2147483648 by omega], by omega⟩
  · rw [w64] at *
    rw [neg64 h, isn64, isn64]
    split
    · exact ⟨by rw [show (X - 9223372036854775808) % 9223372036854775808 = X % 9223372036854775808 by omega], by omega⟩
    · exact ⟨by rw [show (X + 9223372036854775808) % 9223372036854775808 = X % 9223372036854775808 by omega], by omega⟩

theorem fneg_is {k : FloatKind} {x X : Nat} (h : Is k x X) : Is k (Op.negFloat k x) (fneg k X) := by
  obtain ⟨h1, h2⟩ := isn_neg k h.1
  refine ⟨h2, ?_⟩
  unfold fneg
  by_cases hn : isn k x = true
  · have hX : X = qn k := by rw [← h.2]; exact cn_of hn
    have h3 : isn k (Op.negFloat k X) = true := by rw [(isn_neg k (by rw [hX]; exact qn_lt k)).1, hX]; exact isn_qn k
    rw [cn_of (by rw [h1]; exact hn), cn_of h3]
  · have hX : x = X := by rw [← h.2]; exact (cn_of_not (by simpa using hn)).symm
    rw [hX]

theorem fsqrt_can (X : Nat) : Can .f64 (fsqrt X) := by
  unfold fsqrt
  cases h : double.sqrt X with
  | none => exact ⟨by rw [Option.getD_none]; exact qn_lt _, by rw [Option.getD_none, cn_of (isn_qn _)]⟩
  | some r => exact ⟨double.sqrt_lt h, cn_of_not (map_write_not_nan (f := double) (fun d hd => root_not_nan hd) h)⟩

section
variable {P : Program} {ops : Array Oper} {rest : List Oper} {a : Act} {Q : Exit → Act → World → Prop} {w : World} {dst : Option Tmp} {ty : TypeId} {pos : String} {after : Array Edge} {guard : Option (Nat × Bool)} {x y : Operand} {t t' : TypeId}

theorem wpList_fneg {k : FloatKind} {bx X : Nat}
    (hw : Region.wanted ⟨dst, .unOp .neg t x, ty, pos, after, guard⟩ (yielded ops a.tmps) = true) (ex : a.eval x = .float k bx) (hx : Is k bx X)
    (hK : ∀ r, Is k r (fneg k X) → wpList P ops Q rest (a.put dst (.float k r)) w) :
    wpList P ops Q (⟨dst, .unOp .neg t x, ty, pos, after, guard⟩ :: rest) a w :=
  wpList_run (n := 0) hw (by simp [execOp, ex, Op.unary, World.drewN_zero]) (hK _ (fneg_is hx))

theorem run_sqrt (x : Nat) (w : World) : ∃ r n, (Extern.MathSqrt.sqrt #[.float .f64 x]).run P w = .ok (.float .f64 r) (w.drewN n) ∧ Is .f64 r (fsqrt (cn .f64 x)) := by
  have hcn : double.sqrt (cn .f64 x) = double.sqrt x := by
    by_cases hn : isn .f64 x = true
    · have h : ∀ y, isn .f64 y = true → double.sqrt y = none := by
        intro y hy
        obtain ⟨s, f, hr⟩ := isn_read hy
        have hr' : double.read y = .nan s f := hr
        simp [Format.sqrt, hr', Datum.root]
      rw [h _ hn, h _ (by rw [isn_cn]; exact hn)]
    · rw [cn_of_not (by simpa using hn)]
  unfold fsqrt
  rw [hcn]
  have e : Extern.MathSqrt.sqrt #[.float .f64 x] = (match double.sqrt x with | some r => pure (.float .f64 r) | none => do pure (.float .f64 (← choose (.nanBits .f64 x x)))) := rfl
  rw [e]
  cases h : double.sqrt x with
  | some r =>
    refine ⟨r, 0, rfl, double.sqrt_lt h, ?_⟩
    rw [Option.getD_some]
    exact cn_of_not (map_write_not_nan (f := double) (fun d hd => root_not_nan hd) h)
  | none =>
    have hc := cut_nan .f64 (.nanBits .f64 x x) (.inl ⟨x, x, rfl⟩) (w.tape w.drawn (.nanBits .f64 x x))
    refine ⟨_, 1, ?_, hc.2, ?_⟩
    · simp [choose, Sem.run, Question.forced]
      rfl
    · rw [Option.getD_none]; exact cn_of hc.1

/-- a call of the body-less 'math.sqrt' -/
theorem wpList_sqrt {f : FuncId} {ats : Array TypeId} {fn : Func} (hf : P.funcs[f]? = some fn) (h1 : (fn.name == "runtime.NumGoroutine") = false)
    (h2 : fn.body.isNone = true) (h3 : Extern.findNext fn = none) (h4 : Extern.find fn = some Extern.MathSqrt.sqrt) {bx X : Nat}
    (hw : Region.wanted ⟨dst, .call { callee := .value (.func f), args := #[x], argTypes := ats }, ty, pos, after, guard⟩ (yielded ops a.tmps) = true) (ex : a.eval x = .float .f64 bx) (hx : Is .f64 bx X)
    (hK : ∀ r n, Is .f64 r (fsqrt X) → wpList P ops Q rest (a.put dst (.float .f64 r)) (w.drewN n)) :
    wpList P ops Q (⟨dst, .call { callee := .value (.func f), args := #[x], argTypes := ats }, ty, pos, after, guard⟩ :: rest) a w := by
  obtain ⟨r, n, hrun, hr⟩ := run_sqrt (P := P) bx w
  rw [hx.2] at hr
  refine wpList_run (v := .float .f64 r) (n := n) hw ?_ (hK r n hr)
  rw [execOp_call_go]
  have e : (#[] ++ Array.map a.eval #[x] ++ #[] : Array Value) = #[.float .f64 bx] := by simp [ex]
  rw [e, run_callFunc_extern hf h1 h2 h3 h4, hrun]
  rfl
end

attribute [irreducible] fneg

end Go.Fl
end

/-
  PLAIN LAWS: finite numbers, flushed numbers, square roots. (No program here.)
-/
section
set_option exponentiation.threshold 5000
set_option linter.unusedVariables false
set_option linter.unusedSimpArgs false
namespace Go.Fl
open Go Ieee

def fin32B (X : Nat) : Bool := decide (X % 2147483648 < 2139095040)
def fin64B (X : Nat) : Bool := decide (X % 9223372036854775808 < 9218868437227405312)

theorem fin_law {X : Nat} (hX : Can .f64 X) : (!fne .f64 X X && !fgt .f64 (fabs X) 9218868437227405311) = fin64B X := by
  have hlt := can64_lt hX
  have nc : isn .f64 9218868437227405311 = false := by decide +kernel
  by_cases hn : isn .f64 X = true
  · have h1 : fne .f64 X X = true := (fne_iff _ _ _).2 (.inl hn)
    have h2 : fin64B X = false := by
      rw [isn64, decide_eq_true_eq] at hn
      exact decide_eq_false (by omega)
    rw [h1, h2]; rfl
  · have hn' : isn .f64 X = false := by simpa using hn
    have h1 : fne .f64 X X = false := by
      cases h : fne .f64 X X
      · rfl
      · rw [fne_iff] at h; simp [hn'] at h
    rw [h1, Bool.not_false, Bool.true_and]
    have n0 : isn .f64 (fabs X) = false := by
      unfold fabs
      rw [isn64, decide_eq_false_iff_not] at *
      omega
    have e1 : fabs X = X % 9223372036854775808 := by unfold fabs; rfl
    have hf : fgt .f64 (fabs X) 9218868437227405311 = decide (9218868437227405311 < X % 9223372036854775808) := by
      rw [Bool.eq_iff_iff, decide_eq_true_eq, fgt_iff, e1, sv_pos64 (by omega), sv_pos64 (by omega)]
      constructor
      · rintro ⟨_, _, h⟩
        exact lt_of_rv_lt double (Int.ofNat_lt.1 h)
      · intro h
        exact ⟨by rw [← e1]; exact n0, nc, Int.ofNat_lt.2 (rv_lt double h)⟩
    rw [hf]
    unfold fin64B
    rw [Bool.eq_iff_iff, Bool.not_eq_true', decide_eq_true_eq, decide_eq_false_iff_not]
    omega

theorem fin_wid {X : Nat} (hX : Can .f32 X) : fin64B (wid X) = fin32B X := by
  have hlt := can32_lt hX
  unfold fin64B fin32B
  by_cases hn : isn .f32 X = true
  · rw [wid_nan hn, hX.nan hn]; decide +kernel
  · have hn' : isn .f32 X = false := by simpa using hn
    obtain ⟨r0, h1, h2, h3, h4⟩ := wid_cases hlt hn'
    rw [h2, (word64_lt h1).2.1, Bool.eq_iff_iff, decide_eq_true_eq, decide_eq_true_eq]
    rw [isn32, decide_eq_false_iff_not] at hn'
    constructor
    · intro h
      rcases Nat.lt_or_ge (X % 2147483648) 2139095040 with g | g
      · exact g
      · have := h4 (by omega); omega
    · intro h
      exact (h3 h).1

theorem sub_self_fin {X : Nat} (h : X % 2147483648 < 2139095040) : fop .sub .f32 X X = 0 := by
  obtain ⟨m, e, h1, h2, _, _⟩ := read_fin' Ieee.single (X := X) (by unfold rg; rw [sw32, inf32]; exact h)
  have hf : floatBits .sub .f32 X X = some 0 := by
    show ((Ieee.single.read X).sum (Ieee.single.read X).opposite).map Ieee.single.write = _
    rw [h1]
    have e1 : ∀ (s : Bool) (i : Nat), signed s m i + signed (!s) m i = 0 := by
      intro s i; unfold signed; cases s <;> simp <;> omega
    simp only [Datum.opposite, Datum.sum, Option.map_some, Int.min_self, e1]
    cases ng Ieee.single X <;> rfl
  exact fop_some hf

theorem fin_sub {X : Nat} (hX : Can .f32 X) : feq .f32 (fop .sub .f32 X X) 0 = fin32B X := by
  unfold fin32B
  by_cases h : X % 2147483648 < 2139095040
  · rw [sub_self_fin h, decide_eq_true h]; decide +kernel
  · rw [decide_eq_false h]
    have hq : fop .sub .f32 X X = qn .f32 := by
      have hf : floatBits .sub .f32 X X = none := by
        by_cases hn : isn .f32 X = true
        · exact floatBits_nan_left hn
        · have hn' : isn .f32 X = false := by simpa using hn
          rw [isn32, decide_eq_false_iff_not] at hn'
          have hr : Ieee.single.read X = .infinity (ng Ieee.single X) := read_inf' Ieee.single (by decide) (by unfold rg; rw [sw32, inf32]; omega)
          show ((Ieee.single.read X).sum (Ieee.single.read X).opposite).map Ieee.single.write = _
          rw [hr]
          cases ng Ieee.single X <;> rfl
      unfold fop; rw [hf]; rfl
    rw [hq]; decide +kernel

def flush (X : Nat) : Nat := if X &&& 2139095040 = 0 then X &&& 2147483648 else X

theorem and_pow (x k : Nat) : x &&& 2 ^ k = x / 2 ^ k % 2 * 2 ^ k := by
  apply Nat.eq_of_testBit_eq
  intro i
  rw [Nat.testBit_and, Nat.testBit_two_pow, ← Nat.shiftLeft_eq, Nat.testBit_shiftLeft]
  by_cases h : k = i
  · subst h
    simp only [decide_true, Bool.and_true, ge_iff_le, Nat.le_refl, Bool.true_and, Nat.sub_self]
    rw [Nat.testBit_zero, Nat.mod_mod, ← Nat.shiftRight_eq_div_pow]
    have := Nat.testBit_shiftRight (x := x) (i := k) (j := 0)
    rw [Nat.add_zero] at this
    rw [← this, Nat.testBit_zero]
  · simp only [h, decide_false, Bool.and_false]
    by_cases g : k ≤ i
    · obtain ⟨d, hd⟩ : ∃ d, i - k = d + 1 := ⟨i - k - 1, by omega⟩
      rw [hd, Nat.testBit_succ]
      have : x / 2 ^ k % 2 / 2 = 0 := by omega
      rw [this]; simp
    · simp [g]

/-- a zero with the sign of another number -/
def csz (X : Nat) : Nat := if 9223372036854775808 ≤ X then 9223372036854775808 else 0

theorem csz_and {x : Nat} (h : x < 18446744073709551616) : x &&& 9223372036854775808 = csz x := by
  have e := and_pow x 63
  rw [show (2 : Nat) ^ 63 = 9223372036854775808 from rfl] at e
  rw [e]
  unfold csz
  split <;> omega

theorem csz_is (X : Nat) : Is .f64 (csz X) (csz X) := by
  unfold csz
  split
  · exact Is.lit (by decide +kernel)
  · exact Is.lit (by decide +kernel)

theorem noOv_csz (X : Nat) : NoOv (csz X) := by
  unfold csz
  split
  · right; decide +kernel
  · right; decide +kernel

theorem flush_law {X : Nat} (hX : Can .f32 X) (hs : (fne .f32 X 0 && decide (X &&& 2139095040 = 0)) = true) : nar (csz (wid X)) = flush X := by
  rw [Bool.and_eq_true, decide_eq_true_eq] at hs
  have hlt := can32_lt hX
  have h0 := hs.2
  have h1 := (expo_zero X).1 h0
  have hn : isn .f32 X = false := by rw [isn32]; exact decide_eq_false (by omega)
  have hsg := wid_sign hlt hn
  have e := and_pow X 31
  rw [show (2 : Nat) ^ 31 = 2147483648 from rfl] at e
  unfold flush
  rw [if_pos h0, e]
  unfold csz
  by_cases g : 2147483648 ≤ X
  · rw [decide_eq_true g] at hsg
    rw [if_pos (of_decide_eq_true hsg)]
    have : X / 2147483648 % 2 = 1 := by omega
    rw [this]; decide +kernel
  · rw [decide_eq_false g] at hsg
    rw [if_neg (of_decide_eq_false hsg)]
    have : X / 2147483648 % 2 = 0 := by omega
    rw [this]; decide +kernel

theorem flush_same {X : Nat} (hX : Can .f32 X) (hs : (fne .f32 X 0 && decide (X &&& 2139095040 = 0)) = false) : flush X = X := by
  have hlt := can32_lt hX
  unfold flush
  by_cases h0 : X &&& 2139095040 = 0
  · rw [if_pos h0]
    rw [decide_eq_true h0, Bool.and_true] at hs
    have h1 := (expo_zero X).1 h0
    have hn : isn .f32 X = false := by rw [isn32]; exact decide_eq_false (by omega)
    have hz : sv FloatKind.f32.format X = sv FloatKind.f32.format 0 := by
      rcases Classical.em (sv FloatKind.f32.format X = sv FloatKind.f32.format 0) with g | g
      · exact g
      · rw [(fne_iff .f32 X 0).2 (.inr (.inr g))] at hs; cases hs
    rw [sv_of_zero, sv_zero_iff, rg32] at hz
    have e := and_pow X 31
    rw [show (2 : Nat) ^ 31 = 2147483648 from rfl] at e
    rw [e]; omega
  · rw [if_neg h0]

/-! ### square roots of 32-bit numbers are not too great -/
theorem root_ok {X : Nat} (hX : Can .f32 X) : NoOv (fsqrt (wid X)) := by
  have hlt := can32_lt hX
  by_cases hn : isn .f32 X = true
  · rw [wid_nan hn]; left; decide +kernel
  · have hn' : isn .f32 X = false := by simpa using hn
    obtain ⟨r0, h1, h2, h3, h4⟩ := wid_cases hlt hn'
    obtain ⟨g1, g2, g3⟩ := word64_lt (neg := ng FloatKind.f32.format X) h1
    rw [← h2] at g1 g2 g3
    rw [isn32, decide_eq_false_iff_not] at hn'
    rcases Nat.eq_or_lt_of_le (show X % 2147483648 ≤ 2139095040 by omega) with hi | hi
    · -- an infinity
      have hr := h4 hi
      rw [h2, hr]
      cases ng FloatKind.f32.format X
      · right; decide +kernel
      · left; decide +kernel
    · obtain ⟨k1, k2⟩ := h3 hi
      have hf : Fin64 (wid X) := by unfold Fin64; omega
      have hb : Bd (wid X) 1203 := by
        refine ⟨g1, hf, ?_⟩
        unfold mv
        rw [g2, k2]
        have e1 : rv Ieee.single (X % 2147483648) ≤ 2 ^ 278 := by
          obtain ⟨m, e, q1, q2, q3⟩ := exists_dec (X % 2147483648) hi
          rw [q1]
          have : m * 2 ^ e ≤ 2 ^ 24 * 2 ^ e := Nat.mul_le_mul_right _ (by omega)
          refine Nat.le_trans this ?_
          rw [← Nat.pow_add]
          exact two_pow_le (by omega)
        have := Nat.mul_le_mul_right (2 ^ 925) e1
        rw [← Nat.pow_add] at this
        exact this
      by_cases hs : sg (wid X) = false
      · exact noOv_of_bd (bd_sqrt hb hs (by omega : 1203 + 1076 ≤ 2 * 1140) (by omega)).1 (by omega)
      · have hs' : sg (wid X) = true := by simpa using hs
        obtain ⟨m, e, q1, _, q3, _⟩ := hf.read
        rcases Nat.eq_zero_or_pos m with hm | hm
        · -- the negative zero
          rw [hm, Nat.zero_mul] at q3
          have hz : wid X % 9223372036854775808 = 0 := by
            rcases Nat.eq_zero_or_pos (wid X % 9223372036854775808) with z | z
            · exact z
            · have := rv_pos double z; unfold mv at q3; omega
          have : wid X = 0 ∨ wid X = 9223372036854775808 := by omega
          rcases this with z | z
          · rw [z]; right; decide +kernel
          · rw [z]; right; decide +kernel
        · left
          have : fsqrt (wid X) = qn .f64 := by
            unfold fsqrt Format.sqrt
            rw [q1, hs']
            have hm0 : m ≠ 0 := by omega
            simp [Datum.root, hm0]
          rw [this]; decide +kernel

end Go.Fl
end

/-
  CONTRACTS: finite numbers; flushed numbers; square roots.
-/
section
set_option linter.unusedSimpArgs false
namespace Go.Proofs.Ytianaalokclklaa
open Go.RowKit Go.Fl

theorem fret_lit {k : FloatKind} {b : Nat} {w : World} (h : (decide (b < 2 ^ k.format.width) && !isn k b) = true) : FRet k b w (.returned (.float k b)) w := ⟨b, rfl, Is.lit h, Dr.refl _⟩

theorem NaN_any (w : World) : Calls Try.prog 15 #[] w (FRet .f64 (qn .f64) w) := by
  go_enter Try.func15, Try.ntmps15
  go_wp2
  go_ret
  exact ⟨_, rfl, ⟨by decide +kernel, by decide +kernel⟩, Dr.refl _⟩
theorem IsNaN_any (x X : Nat) (hx : Is .f64 x X) (w : World) : Calls Try.prog 27 #[.float .f64 x] w fun e w' => e = .returned (.bool (fne .f64 X X)) ∧ w = w' := by
  go_enter Try.func27, Try.ntmps27
  go_wp2_with (first | ((with_reducible refine wpList_here ?_); (first | ((with_reducible refine wpList_feq (k := ?_) (bx := ?_) (by' := ?_) (X := ?_) (Y := ?_) ?_ ?_ ?_ ?_ ?_ ?_); rotate_left 5; (first | (with_reducible exact wanted_none) | ((with_reducible refine wanted_some ?_); rfl)); (rfl); (rfl); (first | assumption | ((refine Is.lit ?_); decide +kernel) | (refine Is.ofInt _ _)); (first | assumption | ((refine Is.lit ?_); decide +kernel) | (refine Is.ofInt _ _)); (try simp only [Act.put, List.setIfInBounds_toArray, List.set_cons_succ, List.set_cons_zero, World.drewN_drewN])) | ((with_reducible refine wpList_fne (k := ?_) (bx := ?_) (by' := ?_) (X := ?_) (Y := ?_) ?_ ?_ ?_ ?_ ?_ ?_); rotate_left 5; (first | (with_reducible exact wanted_none) | ((with_reducible refine wanted_some ?_); rfl)); (rfl); (rfl); (first | assumption | ((refine Is.lit ?_); decide +kernel) | (refine Is.ofInt _ _)); (first | assumption | ((refine Is.lit ?_); decide +kernel) | (refine Is.ofInt _ _)); (try simp only [Act.put, List.setIfInBounds_toArray, List.set_cons_succ, List.set_cons_zero, World.drewN_drewN])) | ((with_reducible refine wpList_flt (k := ?_) (bx := ?_) (by' := ?_) (X := ?_) (Y := ?_) ?_ ?_ ?_ ?_ ?_ ?_); rotate_left 5; (first | (with_reducible exact wanted_none) | ((with_reducible refine wanted_some ?_); rfl)); (rfl); (rfl); (first | assumption | ((refine Is.lit ?_); decide +kernel) | (refine Is.ofInt _ _)); (first | assumption | ((refine Is.lit ?_); decide +kernel) | (refine Is.ofInt _ _)); (try simp only [Act.put, List.setIfInBounds_toArray, List.set_cons_succ, List.set_cons_zero, World.drewN_drewN])) | ((with_reducible refine wpList_fle (k := ?_) (bx := ?_) (by' := ?_) (X := ?_) (Y := ?_) ?_ ?_ ?_ ?_ ?_ ?_); rotate_left 5; (first | (with_reducible exact wanted_none) | ((with_reducible refine wanted_some ?_); rfl)); (rfl); (rfl); (first | assumption | ((refine Is.lit ?_); decide +kernel) | (refine Is.ofInt _ _)); (first | assumption | ((refine Is.lit ?_); decide +kernel) | (refine Is.ofInt _ _)); (try simp only [Act.put, List.setIfInBounds_toArray, List.set_cons_succ, List.set_cons_zero, World.drewN_drewN])) | ((with_reducible refine wpList_fgt (k := ?_) (bx := ?_) (by' := ?_) (X := ?_) (Y := ?_) ?_ ?_ ?_ ?_ ?_ ?_); rotate_left 5; (first | (with_reducible exact wanted_none) | ((with_reducible refine wanted_some ?_); rfl)); (rfl); (rfl); (first | assumption | ((refine Is.lit ?_); decide +kernel) | (refine Is.ofInt _ _)); (first | assumption | ((refine Is.lit ?_); decide +kernel) | (refine Is.ofInt _ _)); (try simp only [Act.put, List.setIfInBounds_toArray, List.set_cons_succ, List.set_cons_zero, World.drewN_drewN])) | ((with_reducible refine wpList_fge (k := ?_) (bx := ?_) (by' := ?_) (X := ?_) (Y := ?_) ?_ ?_ ?_ ?_ ?_ ?_); rotate_left 5; (first | (with_reducible exact wanted_none) | ((with_reducible refine wanted_some ?_); rfl)); (rfl); (rfl); (first | assumption | ((refine Is.lit ?_); decide +kernel) | (refine Is.ofInt _ _)); (first | assumption | ((refine Is.lit ?_); decide +kernel) | (refine Is.ofInt _ _)); (try simp only [Act.put, List.setIfInBounds_toArray, List.set_cons_succ, List.set_cons_zero, World.drewN_drewN])))))
  go_ret
  exact ⟨rfl, rfl⟩
theorem IsInf0_any (x X : Nat) (hx : Is .f64 x X) (w : World) : Calls Try.prog 28 #[.float .f64 x, .int .i64 0] w fun e w' => e = .returned (.bool (fgt .f64 (fabs X) 9218868437227405311)) ∧ w = w' := by
  go_enter Try.func28, Try.ntmps28
  go_wp2_with (first | (go_at_call 16; refine (Absf_any _ _ (by assumption) _).mono ?_; rintro e w' ⟨r, rfl, hr, rfl⟩) | ((with_reducible refine wpList_here ?_); (first | ((with_reducible refine wpList_feq (k := ?_) (bx := ?_) (by' := ?_) (X := ?_) (Y := ?_) ?_ ?_ ?_ ?_ ?_ ?_); rotate_left 5; (first | (with_reducible exact wanted_none) | ((with_reducible refine wanted_some ?_); rfl)); (rfl); (rfl); (first | assumption | ((refine Is.lit ?_); decide +kernel) | (refine Is.ofInt _ _)); (first | assumption | ((refine Is.lit ?_); decide +kernel) | (refine Is.ofInt _ _)); (try simp only [Act.put, List.setIfInBounds_toArray, List.set_cons_succ, List.set_cons_zero, World.drewN_drewN])) | ((with_reducible refine wpList_fne (k := ?_) (bx := ?_) (by' := ?_) (X := ?_) (Y := ?_) ?_ ?_ ?_ ?_ ?_ ?_); rotate_left 5; (first | (with_reducible exact wanted_none) | ((with_reducible refine wanted_some ?_); rfl)); (rfl); (rfl); (first | assumption | ((refine Is.lit ?_); decide +kernel) | (refine Is.ofInt _ _)); (first | assumption | ((refine Is.lit ?_); decide +kernel) | (refine Is.ofInt _ _)); (try simp only [Act.put, List.setIfInBounds_toArray, List.set_cons_succ, List.set_cons_zero, World.drewN_drewN])) | ((with_reducible refine wpList_flt (k := ?_) (bx := ?_) (by' := ?_) (X := ?_) (Y := ?_) ?_ ?_ ?_ ?_ ?_ ?_); rotate_left 5; (first | (with_reducible exact wanted_none) | ((with_reducible refine wanted_some ?_); rfl)); (rfl); (rfl); (first | assumption | ((refine Is.lit ?_); decide +kernel) | (refine Is.ofInt _ _)); (first | assumption | ((refine Is.lit ?_); decide +kernel) | (refine Is.ofInt _ _)); (try simp only [Act.put, List.setIfInBounds_toArray, List.set_cons_succ, List.set_cons_zero, World.drewN_drewN])) | ((with_reducible refine wpList_fle (k := ?_) (bx := ?_) (by' := ?_) (X := ?_) (Y := ?_) ?_ ?_ ?_ ?_ ?_ ?_); rotate_left 5; (first | (with_reducible exact wanted_none) | ((with_reducible refine wanted_some ?_); rfl)); (rfl); (rfl); (first | assumption | ((refine Is.lit ?_); decide +kernel) | (refine Is.ofInt _ _)); (first | assumption | ((refine Is.lit ?_); decide +kernel) | (refine Is.ofInt _ _)); (try simp only [Act.put, List.setIfInBounds_toArray, List.set_cons_succ, List.set_cons_zero, World.drewN_drewN])) | ((with_reducible refine wpList_fgt (k := ?_) (bx := ?_) (by' := ?_) (X := ?_) (Y := ?_) ?_ ?_ ?_ ?_ ?_ ?_); rotate_left 5; (first | (with_reducible exact wanted_none) | ((with_reducible refine wanted_some ?_); rfl)); (rfl); (rfl); (first | assumption | ((refine Is.lit ?_); decide +kernel) | (refine Is.ofInt _ _)); (first | assumption | ((refine Is.lit ?_); decide +kernel) | (refine Is.ofInt _ _)); (try simp only [Act.put, List.setIfInBounds_toArray, List.set_cons_succ, List.set_cons_zero, World.drewN_drewN])) | ((with_reducible refine wpList_fge (k := ?_) (bx := ?_) (by' := ?_) (X := ?_) (Y := ?_) ?_ ?_ ?_ ?_ ?_ ?_); rotate_left 5; (first | (with_reducible exact wanted_none) | ((with_reducible refine wanted_some ?_); rfl)); (rfl); (rfl); (first | assumption | ((refine Is.lit ?_); decide +kernel) | (refine Is.ofInt _ _)); (first | assumption | ((refine Is.lit ?_); decide +kernel) | (refine Is.ofInt _ _)); (try simp only [Act.put, List.setIfInBounds_toArray, List.set_cons_succ, List.set_cons_zero, World.drewN_drewN])))))
  go_ret
  exact ⟨rfl, rfl⟩
theorem IsInf1_any (x X : Nat) (hx : Is .f64 x X) (w : World) : Calls Try.prog 28 #[.float .f64 x, .int .i64 1] w fun e w' => e = .returned (.bool (fgt .f64 X 9218868437227405311)) ∧ w = w' := by
  go_enter Try.func28, Try.ntmps28
  go_wp2_with (first | (go_at_call 16; refine (Absf_any _ _ (by assumption) _).mono ?_; rintro e w' ⟨r, rfl, hr, rfl⟩) | ((with_reducible refine wpList_here ?_); (first | ((with_reducible refine wpList_feq (k := ?_) (bx := ?_) (by' := ?_) (X := ?_) (Y := ?_) ?_ ?_ ?_ ?_ ?_ ?_); rotate_left 5; (first | (with_reducible exact wanted_none) | ((with_reducible refine wanted_some ?_); rfl)); (rfl); (rfl); (first | assumption | ((refine Is.lit ?_); decide +kernel) | (refine Is.ofInt _ _)); (first | assumption | ((refine Is.lit ?_); decide +kernel) | (refine Is.ofInt _ _)); (try simp only [Act.put, List.setIfInBounds_toArray, List.set_cons_succ, List.set_cons_zero, World.drewN_drewN])) | ((with_reducible refine wpList_fne (k := ?_) (bx := ?_) (by' := ?_) (X := ?_) (Y := ?_) ?_ ?_ ?_ ?_ ?_ ?_); rotate_left 5; (first | (with_reducible exact wanted_none) | ((with_reducible refine wanted_some ?_); rfl)); (rfl); (rfl); (first | assumption | ((refine Is.lit ?_); decide +kernel) | (refine Is.ofInt _ _)); (first | assumption | ((refine Is.lit ?_); decide +kernel) | (refine Is.ofInt _ _)); (try simp only [Act.put, List.setIfInBounds_toArray, List.set_cons_succ, List.set_cons_zero, World.drewN_drewN])) | ((with_reducible refine wpList_flt (k := ?_) (bx := ?_) (by' := ?_) (X := ?_) (Y := ?_) ?_ ?_ ?_ ?_ ?_ ?_); rotate_left 5; (first | (with_reducible exact wanted_none) | ((with_reducible refine wanted_some ?_); rfl)); (rfl); (rfl); (first | assumption | ((refine Is.lit ?_); decide +kernel) | (refine Is.ofInt _ _)); (first | assumption | ((refine Is.lit ?_); decide +kernel) | (refine Is.ofInt _ _)); (try simp only [Act.put, List.setIfInBounds_toArray, List.set_cons_succ, List.set_cons_zero, World.drewN_drewN])) | ((with_reducible refine wpList_fle (k := ?_) (bx := ?_) (by' := ?_) (X := ?_) (Y := ?_) ?_ ?_ ?_ ?_ ?_ ?_); rotate_left 5; (first | (with_reducible exact wanted_none) | ((with_reducible refine wanted_some ?_); rfl)); (rfl); (rfl); (first | assumption | ((refine Is.lit ?_); decide +kernel) | (refine Is.ofInt _ _)); (first | assumption | ((refine Is.lit ?_); decide +kernel) | (refine Is.ofInt _ _)); (try simp only [Act.put, List.setIfInBounds_toArray, List.set_cons_succ, List.set_cons_zero, World.drewN_drewN])) | ((with_reducible refine wpList_fgt (k := ?_) (bx := ?_) (by' := ?_) (X := ?_) (Y := ?_) ?_ ?_ ?_ ?_ ?_ ?_); rotate_left 5; (first | (with_reducible exact wanted_none) | ((with_reducible refine wanted_some ?_); rfl)); (rfl); (rfl); (first | assumption | ((refine Is.lit ?_); decide +kernel) | (refine Is.ofInt _ _)); (first | assumption | ((refine Is.lit ?_); decide +kernel) | (refine Is.ofInt _ _)); (try simp only [Act.put, List.setIfInBounds_toArray, List.set_cons_succ, List.set_cons_zero, World.drewN_drewN])) | ((with_reducible refine wpList_fge (k := ?_) (bx := ?_) (by' := ?_) (X := ?_) (Y := ?_) ?_ ?_ ?_ ?_ ?_ ?_); rotate_left 5; (first | (with_reducible exact wanted_none) | ((with_reducible refine wanted_some ?_); rfl)); (rfl); (rfl); (first | assumption | ((refine Is.lit ?_); decide +kernel) | (refine Is.ofInt _ _)); (first | assumption | ((refine Is.lit ?_); decide +kernel) | (refine Is.ofInt _ _)); (try simp only [Act.put, List.setIfInBounds_toArray, List.set_cons_succ, List.set_cons_zero, World.drewN_drewN])))))
  go_ret
  exact ⟨rfl, rfl⟩
theorem finite_any (x X : Nat) (hx : Is .f64 x X) (w : World) : Calls Try.prog 14 #[.float .f64 x] w fun e w' => e = .returned (.bool (fin64B X)) ∧ w = w' := by
  go_enter Try.func14, Try.ntmps14
  go_wp2_with (first | (go_at_call 27; refine (IsNaN_any _ _ hx _).mono ?_; rintro e w' ⟨rfl, rfl⟩) | (go_at_call 28; refine (IsInf0_any _ _ hx _).mono ?_; rintro e w' ⟨rfl, rfl⟩))
  all_goals go_ret
  · exact ⟨ret_bool (by rw [← fin_law hx.can, show fne .f64 X X = true by assumption]; rfl), rfl⟩
  · exact ⟨ret_bool (by rw [← fin_law hx.can, show fne .f64 X X = false by simpa using (show ¬ fne .f64 X X = true by assumption)]; rfl), rfl⟩
theorem iIsFinite_any (x X : Nat) (hx : Is .f32 x X) (w : World) : Calls Try.prog 23 #[.float .f32 x] w (VRet (.bool (fin32B X)) w) := by
  go_enter Try.func23, Try.ntmps23
  go_wp2_with (first | (go_at_call 14; refine (finite_any _ _ (by assumption) _).mono ?_; rintro e w' ⟨rfl, rfl⟩) | ((with_reducible refine wpList_here ?_); (first | ((with_reducible refine wpList_widen Try.underlying28 Try.underlying27 (bx := ?_) (X := ?_) ?_ ?_ ?_ ?_); rotate_left 2; (first | (with_reducible exact wanted_none) | ((with_reducible refine wanted_some ?_); rfl)); (rfl); (first | assumption | ((refine Is.lit ?_); decide +kernel) | (refine Is.ofInt _ _)); (intro r nd hr); (try simp only [Act.put, List.setIfInBounds_toArray, List.set_cons_succ, List.set_cons_zero, World.drewN_drewN])))))
  go_ret
  exact ⟨ret_bool (fin_wid hx.can), (by repeat (first | exact Dr.refl _ | apply Dr.drewN))⟩
theorem Copysign_zero (x X : Nat) (hx : Is .f64 x X) (hn : isn .f64 X = false) (w : World) : Calls Try.prog 42 #[.float .f64 0, .float .f64 x] w fun e w' => ∃ r, e = .returned (.float .f64 r) ∧ Is .f64 r (csz X) ∧ w = w' := by
  have hb := is64_le hx
  have e1 : bits BinOp.andNot IntKind.u64 0 9223372036854775808 = 0 := by decide +kernel
  have e2 : bits BinOp.and IntKind.u64 (x : Int) 9223372036854775808 = (csz x : Int) := by
    have h := bits_and_u64_nat x 9223372036854775808 (by omega) (by omega)
    rw [show ((9223372036854775808 : Nat) : Int) = 9223372036854775808 from rfl, csz_and (by omega)] at h
    exact h
  have e3 : bits BinOp.or IntKind.u64 0 (csz x : Int) = (csz x : Int) := by
    unfold csz
    split <;> decide +kernel
  have hX := Lib.hid (is_of_num hx hn)
  go_enter Try.func42, Try.ntmps42
  go_wp2
  go_ret
  refine ⟨csz x, by simp [e2, e3], ?_, rfl⟩
  rw [hX.out]; exact csz_is X
theorem Sqrt_any (x X : Nat) (hx : Is .f64 x X) (w : World) : Calls Try.prog 39 #[.float .f64 x] w (FRet .f64 (fsqrt X) w) := by
  go_enter Try.func39, Try.ntmps39
  go_wp2_with ((with_reducible refine wpList_here ?_); (first | ((with_reducible refine wpList_sqrt Try.func43 (by kernel_rfl) (by kernel_rfl) (by kernel_rfl) (by kernel_rfl) (bx := ?_) (X := ?_) ?_ ?_ ?_ ?_); rotate_left 2; (first | (with_reducible exact wanted_none) | ((with_reducible refine wanted_some ?_); rfl)); (rfl); (first | assumption | ((refine Is.lit ?_); decide +kernel) | (refine Is.ofInt _ _)); (intro r nd hr); (try simp only [Act.put, List.setIfInBounds_toArray, List.set_cons_succ, List.set_cons_zero, World.drewN_drewN]))))
  go_ret
  exact ⟨_, rfl, by assumption, (by repeat (first | exact Dr.refl _ | apply Dr.drewN))⟩
end Go.Proofs.Ytianaalokclklaa
end

/-
  PLAIN LAWS: the logarithm: halving and doubling until the number lies between 0.75 and 1.5; the series; its bounds. (No program here.)
-/
section
set_option exponentiation.threshold 5000
set_option linter.unusedVariables false
set_option linter.unusedSimpArgs false
namespace Go.Fl
open Go Ieee

/-- halved, exactly -/
theorem near_half {X : Nat} (hX : Fin64 X) : Near (fop .quo .f64 X 4611686018427387904) (mv X) 2 ∧ sg (fop .quo .f64 X 4611686018427387904) = sg X := by
  obtain ⟨m, i, h1, h2, h3, h4⟩ := hX.read
  have g1 : double.read 4611686018427387904 = .number false 4503599627370496 (-51) := by decide +kernel
  obtain ⟨more, hmore⟩ : ∃ more, more = 54 + (4503599627370496 : Nat).log2 - m.log2 := ⟨_, rfl⟩
  have hl2 : (4503599627370496 : Nat).log2 = 52 := by decide +kernel
  have hL : m.log2 ≤ 52 := by
    rcases Nat.eq_zero_or_pos m with g | g
    · rw [g]; decide
    · have := (Nat.log2_lt (by omega : m ≠ 0)).2 (show m < 2 ^ 53 by omega)
      omega
  have hm54 : 54 ≤ more := by omega
  have e0 : (2 : Nat) ^ more = 2 ^ (more - 52) * 4503599627370496 := by
    rw [show (4503599627370496 : Nat) = 2 ^ 52 by decide +kernel, ← Nat.pow_add]
    congr 1; omega
  have hD : m <<< more = m * 2 ^ (more - 52) * 4503599627370496 := by rw [Nat.shiftLeft_eq, e0, Nat.mul_assoc]
  have hdiv : (m <<< more) / 4503599627370496 = m * 2 ^ (more - 52) := by rw [hD]; exact Nat.mul_div_cancel _ (by omega)
  have hmod : (m <<< more) % 4503599627370496 = 0 := by rw [hD]; exact Nat.mul_mod_left _ _
  have hf : floatBits .quo .f64 X 4611686018427387904 = some (double.nearest (sg X) (2 * (m * 2 ^ (more - 52))) (i - -51 - more - 1)) := by
    show ((double.read X).quotient 54 (double.read 4611686018427387904)).map double.write = _
    rw [h1, g1]
    simp only [Datum.quotient, Option.map_some, Format.write, ← hmore, hdiv, hmod]
    rw [if_neg (by decide)]
    cases sg X <;> rfl
  rw [fop_some hf]
  refine near_nearest _ _ _ _ _ (by omega) ?_
  rw [← h3]
  obtain ⟨a, ha⟩ : ∃ a : Nat, (i - -51 - more - 1 - -1074).toNat = a := ⟨_, rfl⟩
  obtain ⟨b, hb⟩ : ∃ b : Nat, (-1074 - (i - -51 - more - 1)).toNat = b := ⟨_, rfl⟩
  obtain ⟨I, hI⟩ : ∃ I : Nat, (i - -1074).toNat = I := ⟨_, rfl⟩
  rw [ha, hb, hI]
  have hs : more - 52 + a + 2 = I + b := by omega
  have e1 : 2 * (m * 2 ^ (more - 52)) * 2 ^ a * 2 = m * 2 ^ (more - 52 + a + 2) := by
    rw [Nat.pow_add, Nat.pow_add]
    rw [show (2 : Nat) ^ 2 = 2 * 2 from rfl]
    ac_rfl
  rw [e1, hs, Nat.pow_add, Nat.mul_assoc]

theorem two_mv : mv 4611686018427387904 = 2 ^ 1075 := by decide +kernel
theorem two_fin : Fin64 4611686018427387904 := by unfold Fin64; decide
theorem two_sg : sg 4611686018427387904 = false := by decide +kernel

def dn : Nat → Nat → Nat → Nat × Nat
  | 0, X, n => (X, n)
  | k + 1, X, n => if fge .f64 X 4609434218613702656 then dn k (fop .quo .f64 X 4611686018427387904) (n + 1) else (X, n)
def up : Nat → Nat → Nat → Nat × Nat
  | 0, X, n => (X, n)
  | k + 1, X, n => if flt .f64 X 4604930618986332160 then up k (fop .mul .f64 X 4611686018427387904) (n + 1) else (X, n)

theorem svd_eq (X : Nat) : sv double X = svd X := by
  unfold sv svd sg mv
  rw [rgd]

theorem not_nan {X : Nat} (h : Fin64 X) : isn .f64 X = false := by rw [isn64]; unfold Fin64 at h; exact decide_eq_false (by omega)

/-- comparing finite words -/
theorem fge_fin {X Y : Nat} (hX : Fin64 X) (hY : Fin64 Y) : fge .f64 X Y = decide (svd Y ≤ svd X) := by
  rw [Bool.eq_iff_iff, decide_eq_true_eq, fge_iff, show FloatKind.f64.format = double from rfl, svd_eq, svd_eq]
  simp [not_nan hX, not_nan hY]
theorem flt_fin {X Y : Nat} (hX : Fin64 X) (hY : Fin64 Y) : flt .f64 X Y = decide (svd X < svd Y) := by
  rw [Bool.eq_iff_iff, decide_eq_true_eq, flt_iff, show FloatKind.f64.format = double from rfl, svd_eq, svd_eq]
  simp [not_nan hX, not_nan hY]
theorem fgt_fin {X Y : Nat} (hX : Fin64 X) (hY : Fin64 Y) : fgt .f64 X Y = decide (svd Y < svd X) := by
  rw [Bool.eq_iff_iff, decide_eq_true_eq, fgt_iff, show FloatKind.f64.format = double from rfl, svd_eq, svd_eq]
  simp [not_nan hX, not_nan hY]

theorem svd_pos {X : Nat} (h : sg X = false) : svd X = (mv X : Int) := by unfold svd; rw [h]; rfl

theorem c15_val : svd 4609434218613702656 = 3 * 2 ^ 1073 := by decide +kernel
theorem c15_fin : Fin64 4609434218613702656 := by unfold Fin64; decide
theorem c075_val : svd 4604930618986332160 = 3 * 2 ^ 1072 := by decide +kernel
theorem c075_fin : Fin64 4604930618986332160 := by unfold Fin64; decide
theorem one_val : svd 4607182418800017408 = 2 ^ 1074 := by decide +kernel
theorem one_bd : Bd 4607182418800017408 1074 := ⟨by decide, by unfold Fin64; decide, by decide +kernel⟩

/-- one halving more -/
theorem half_step {X k : Nat} (hb : Bd X (1074 + (k + 1))) (hs : sg X = false) (hlo : 2 ^ 925 ≤ mv X) (hg : fge .f64 X 4609434218613702656 = true) (hk : k ≤ 200) :
    Bd (fop .quo .f64 X 4611686018427387904) (1074 + k) ∧ sg (fop .quo .f64 X 4611686018427387904) = false ∧ 2 ^ 925 ≤ mv (fop .quo .f64 X 4611686018427387904) := by
  obtain ⟨h1, h2⟩ := near_half hb.2.1
  refine ⟨h1.bd (by omega) ?_, by rw [h2, hs], h1.lo (by omega) ?_⟩
  · have := hb.2.2
    rw [show 1074 + (k + 1) = (1074 + k) + 1 by omega, Nat.pow_succ] at this
    exact this
  · rw [fge_fin hb.2.1 c15_fin, decide_eq_true_eq, c15_val, svd_pos hs] at hg
    have e : (3 * 2 ^ 1073 : Int) = ((3 * 2 ^ 1073 : Nat) : Int) := by norm_cast
    rw [e] at hg
    have hg' := Int.ofNat_le.1 hg
    have h3 : (2 : Nat) ^ 925 * 2 ≤ 3 * 2 ^ 1073 := by decide +kernel
    omega

theorem half_end {X : Nat} (hb : Bd X 1074) (hs : sg X = false) : fge .f64 X 4609434218613702656 = false := by
  rw [fge_fin hb.2.1 c15_fin, decide_eq_false_iff_not, c15_val, svd_pos hs]
  have e : (3 * 2 ^ 1073 : Int) = ((3 * 2 ^ 1073 : Nat) : Int) := by norm_cast
  rw [e, Int.ofNat_le]
  have h3 : (2 : Nat) ^ 1074 < 3 * 2 ^ 1073 := by decide +kernel
  have := hb.2.2
  omega

/-- one doubling more -/
theorem double_step {X k : Nat} (hb : Bd X 1075) (hs : sg X = false) (hlo : 2 ^ (1074 - (k + 1)) ≤ mv X) (hg : flt .f64 X 4604930618986332160 = true) (hk : k + 1 ≤ 1074) :
    Bd (fop .mul .f64 X 4611686018427387904) 1075 ∧ sg (fop .mul .f64 X 4611686018427387904) = false ∧ 2 ^ (1074 - k) ≤ mv (fop .mul .f64 X 4611686018427387904) := by
  obtain ⟨h1, h2⟩ := near_mul hb.2.1 two_fin
  rw [two_mv] at h1
  refine ⟨h1.bd (by omega) ?_, by rw [h2, hs, two_sg]; rfl, h1.lo (by omega) ?_⟩
  · rw [flt_fin hb.2.1 c075_fin, decide_eq_true_eq, c075_val, svd_pos hs] at hg
    have e : (3 * 2 ^ 1072 : Int) = ((3 * 2 ^ 1072 : Nat) : Int) := by norm_cast
    rw [e] at hg
    have hg' := Int.ofNat_lt.1 hg
    have h3 : 3 * 2 ^ 1072 ≤ (2 : Nat) ^ 1074 := by decide +kernel
    have h4 : mv X ≤ 2 ^ 1074 := by omega
    have h5 := Nat.mul_le_mul_right (2 ^ 1075) h4
    rw [Nat.mul_comm (2 ^ 1075)]
    exact h5
  · have h5 := Nat.mul_le_mul_right (2 ^ 1075) hlo
    refine Nat.le_trans (Nat.le_of_eq ?_) h5
    rw [← Nat.pow_add, ← Nat.pow_add]
    congr 1
    omega

theorem double_end {X : Nat} (hb : Bd X 1075) (hs : sg X = false) (hlo : 2 ^ 1074 ≤ mv X) : flt .f64 X 4604930618986332160 = false := by
  rw [flt_fin hb.2.1 c075_fin, decide_eq_false_iff_not, c075_val, svd_pos hs]
  have e : (3 * 2 ^ 1072 : Int) = ((3 * 2 ^ 1072 : Nat) : Int) := by norm_cast
  rw [e, Int.ofNat_lt]
  have h3 : 3 * 2 ^ 1072 ≤ (2 : Nat) ^ 1074 := by decide +kernel
  omega

end Go.Fl
end
