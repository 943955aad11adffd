/-
  PLAIN LAWS: a number by one is itself; a sum is finite only where both are. (No program here.)
-/
import Derived.Test.YtobghfjkkkfecaaLaw3
set_option exponentiation.threshold 5000
set_option linter.unusedVariables false
set_option linter.unusedSimpArgs false
namespace Go.Fl
open Go Ieee

theorem one_read32 : Ieee.single.read 1065353216 = .number false 8388608 (-23) := by decide +kernel

theorem f32_split {X : Nat} (hX : Can .f32 X) : X = 2143289344 ∨ (isn .f32 X = false ∧ X % 2147483648 = 2139095040) ∨ X % 2147483648 < 2139095040 := by
  by_cases hn : isn .f32 X = true
  · left; rw [hX.nan hn]; decide +kernel
  · rw [isn32] at hn
    simp only [decide_eq_true_eq] at hn
    by_cases h : X % 2147483648 = 2139095040
    · right; left; exact ⟨by rw [isn32, decide_eq_false_iff_not]; omega, h⟩
    · right; right; omega

theorem inf_two {X : Nat} (hX : X < 4294967296) (h : X % 2147483648 = 2139095040) : X = 2139095040 ∨ X = 4286578688 := by omega

theorem quo_one {X : Nat} (hX : Can .f32 X) : fop .quo .f32 X 1065353216 = X := by
  rcases f32_split hX with rfl | ⟨_, h⟩ | h
  · decide +kernel
  · rcases inf_two (can32_lt hX) h with rfl | rfl <;> decide +kernel
  · obtain ⟨m, e, h1, h2, h3, h4⟩ := read_fin' Ieee.single (X := X) (by unfold rg; rw [sw32, inf32]; exact h)
    rw [lp32] at h2 h3
    rw [bin32] at h4
    obtain ⟨more, hmore⟩ : ∃ more, more = 25 + (8388608 : Nat).log2 - m.log2 := ⟨_, rfl⟩
    have hl : (8388608 : Nat).log2 = 23 := by decide +kernel
    have hm : m.log2 ≤ 23 := by
      rcases Nat.eq_zero_or_pos m with g | g
      · subst g; decide
      · have := Nat.log2_self_le (n := m) (by omega)
        have := (Nat.pow_lt_pow_iff_right (a := 2) (n := m.log2) (m := 24) (by omega)).1 (by omega)
        omega
    rw [hl] at hmore
    have hd : (m <<< more) = m * 2 ^ (more - 23) * 8388608 := by
      rw [Nat.shiftLeft_eq, Nat.mul_assoc, show (8388608 : Nat) = 2 ^ 23 from rfl, ← Nat.pow_add]
      congr 2; omega
    have hq : (m <<< more) / 8388608 = m * 2 ^ (more - 23) := by rw [hd]; exact Nat.mul_div_cancel _ (by omega)
    have hr : (m <<< more) % 8388608 = 0 := by rw [hd]; exact Nat.mul_mod_left _ _
    have hf : floatBits .quo .f32 X 1065353216 = some (Ieee.single.nearest (ng Ieee.single X ^^ false) (2 * (m * 2 ^ (more - 23))) (e - -23 - more - 1)) := by
      show ((Ieee.single.read X).quotient 25 (Ieee.single.read 1065353216)).map Ieee.single.write = _
      rw [h1, one_read32]
      simp only [Datum.quotient, show ¬ ((8388608 : Nat) = 0) from by omega, if_false, Option.map_some, Format.write, hl, ← hmore, hq, hr]
      rfl
    rw [fop_some hf, Bool.xor_false]
    have hx := word_of (k := .f32) hX.1
    rw [nearest_exact Ieee.single (ng Ieee.single X) (r0 := rg Ieee.single X) (by unfold rg; rw [sw32, inf32]; omega) ?_]
    · exact hx.symm
    · rw [lp32, ← h3]
      obtain ⟨a, ha⟩ : ∃ a : Nat, (e - -23 - more - 1 - -149).toNat = a := ⟨_, rfl⟩
      obtain ⟨b, hb⟩ : ∃ b : Nat, (-149 - (e - -23 - more - 1)).toNat = b := ⟨_, rfl⟩
      obtain ⟨c, hc⟩ : ∃ c : Nat, (e - -149).toNat = c := ⟨_, rfl⟩
      rw [ha, hb, hc]
      have e1 : 1 + (more - 23) + a = c + b := by omega
      calc 2 * (m * 2 ^ (more - 23)) * 2 ^ a = m * 2 ^ (1 + (more - 23) + a) := by rw [Nat.pow_add, Nat.pow_add, Nat.pow_one]; ac_rfl
        _ = m * 2 ^ c * 2 ^ b := by rw [e1, Nat.pow_add, Nat.mul_assoc]

theorem fin_add_left {X Y : Nat} (hX : Can .f32 X) (h : fin32B (fop .add .f32 X Y) = true) : fin32B X = true := by
  cases g : fin32B X with
  | true => rfl
  | false =>
    exfalso
    have k : X = 2143289344 ∨ X = 2139095040 ∨ X = 4286578688 := by
      unfold fin32B at g
      rw [decide_eq_false_iff_not] at g
      rcases f32_split hX with h | ⟨_, h⟩ | h
      · exact .inl h
      · exact .inr (inf_two (can32_lt hX) h)
      · omega
    have e : floatBits .add .f32 X Y = none ∨ floatBits .add .f32 X Y = some 2139095040 ∨ floatBits .add .f32 X Y = some 4286578688 := by
      have fb : floatBits .add .f32 X Y = ((Ieee.single.read X).sum (Ieee.single.read Y)).map Ieee.single.write := rfl
      rw [fb]
      have r1 : ∃ f, Ieee.single.read 2143289344 = .nan false f := ⟨4194304, by decide +kernel⟩
      have r2 : Ieee.single.read 2139095040 = .infinity false := by decide +kernel
      have r3 : Ieee.single.read 4286578688 = .infinity true := by decide +kernel
      have w2 : Ieee.single.write (.infinity false) = 2139095040 := by decide +kernel
      have w3 : Ieee.single.write (.infinity true) = 4286578688 := by decide +kernel
      rcases k with rfl | rfl | rfl
      · obtain ⟨f, hf⟩ := r1
        rw [hf]; left; cases Ieee.single.read Y <;> rfl
      · rw [r2]
        cases Ieee.single.read Y with
        | number s m e => right; left; simp [Datum.sum, w2]
        | infinity s => cases s <;> simp [Datum.sum, w2]
        | nan s f => left; rfl
      · rw [r3]
        cases Ieee.single.read Y with
        | number s m e => right; right; simp [Datum.sum, w3]
        | infinity s => cases s <;> simp [Datum.sum, w3]
        | nan s f => left; rfl
    have e' : fop .add .f32 X Y = 2143289344 ∨ fop .add .f32 X Y = 2139095040 ∨ fop .add .f32 X Y = 4286578688 := by
      rcases e with e | e | e
      · left; unfold fop; rw [e]; decide +kernel
      · right; left; exact fop_some e
      · right; right; exact fop_some e
    rcases e' with e' | e' | e' <;> rw [e'] at h <;> revert h <;> decide +kernel
end Go.Fl
