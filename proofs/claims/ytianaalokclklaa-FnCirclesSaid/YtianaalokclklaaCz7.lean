/-
  PLAIN LAWS AND CONTRACTS, part 7.
-/
import Derived.Test.YtianaalokclklaaCz2
import Derived.Test.YtianaalokclklaaCz6

/-
  FLOATS RECKONED FAST BY THE KERNEL: the operations on normal words of 64 bits in plain natural numbers; each proved to be the operation. (No program here.)
-/
section
set_option exponentiation.threshold 5000
set_option linter.unusedVariables false
set_option linter.unusedSimpArgs false
namespace Go.Fl
open Go Ieee

theorem log2_of {n L : Nat} (h1 : 2 ^ L ≤ n) (h2 : n < 2 ^ (L + 1)) : n.log2 = L := by
  have h0 : n ≠ 0 := by have := Nat.two_pow_pos L; omega
  have a := Nat.log2_self_le h0
  have b : n < 2 ^ (n.log2 + 1) := Nat.lt_log2_self
  have c : n.log2 < L + 1 := (Nat.pow_lt_pow_iff_right (by omega : 1 < 2)).1 (Nat.lt_of_le_of_lt a h2)
  have d : L < n.log2 + 1 := (Nat.pow_lt_pow_iff_right (by omega : 1 < 2)).1 (Nat.lt_of_le_of_lt h1 b)
  omega
theorem beqN (a b : Nat) : (a == b) = Nat.beq a b := by rw [Bool.eq_iff_iff, beq_iff_eq, Nat.beq_eq]
theorem bneN (a b : Nat) : (a != b) = !Nat.beq a b := by rw [bne, beqN]
/-- 'n / 2 ^ d', to the nearest, between two the even one -/
def cutE (n d : Nat) : Nat := n / 2 ^ d + (Nat.blt (2 ^ d) (2 * (n % 2 ^ d)) || (Nat.beq (2 ^ d) (2 * (n % 2 ^ d)) && Nat.beq (n / 2 ^ d % 2) 1)).toNat
theorem cutE_eq (s : Bool) {n d : Nat} (h : d ≤ n.log2 + 2) : Toward.even.cut s n d = cutE n d := by
  unfold Toward.cut cutE
  rw [Nat.min_eq_left h, Nat.shiftLeft_eq, Nat.one_mul]
  congr 1
  have e1 : decide (2 ^ d < 2 * (n % 2 ^ d)) = Nat.blt (2 ^ d) (2 * (n % 2 ^ d)) := by
    rw [Bool.eq_iff_iff, decide_eq_true_eq, Nat.blt_eq]
  simp only [e1, beqN]
theorem cutE_zero (n : Nat) : cutE n 0 = n := by
  unfold cutE
  have e : n % 2 ^ 0 = 0 := by rw [Nat.pow_zero, Nat.mod_one]
  rw [e, Nat.pow_zero, Nat.div_one]
  rfl
/-- the rung of 'mag * 2 ^ (E - 1075)', 'L' its length less one -/
def nrmL (mag E L : Nat) : Nat := bif Nat.ble 52 L then (E + (L - 52) - 1) * 4503599627370496 + cutE mag (L - 52) else (E - (52 - L) - 1) * 4503599627370496 + mag * 2 ^ (52 - L)
def okL (mag E L : Nat) : Bool := Nat.ble (2 ^ L) mag && Nat.blt mag (2 ^ (L + 1)) && Nat.ble 53 (E + L) && Nat.blt (nrmL mag E L) 9218868437227405312 && Nat.ble 1 E
theorem nearest_nrm (s : Bool) {mag E L : Nat} (h : okL mag E L = true) : double.nearest s mag ((E : Int) - 1075) = double.word s (nrmL mag E L) := by
  unfold okL at h
  rw [Bool.and_eq_true, Bool.and_eq_true, Bool.and_eq_true, Bool.and_eq_true] at h
  obtain ⟨⟨⟨⟨h1, h2⟩, h3⟩, h4⟩, h5⟩ := h
  have h1 := Nat.le_of_ble_eq_true h1
  have h2 : mag < 2 ^ (L + 1) := Nat.blt_eq.mp h2
  have h3 := Nat.le_of_ble_eq_true h3
  have h4 : nrmL mag E L < 9218868437227405312 := Nat.blt_eq.mp h4
  have h5 := Nat.le_of_ble_eq_true h5
  have hl := log2_of h1 h2
  have hm : mag ≠ 0 := by have := Nat.two_pow_pos L; omega
  unfold Format.nearest
  rw [if_neg hm]
  have hfb : (double.fractionBits : Int) = 52 := by decide
  have hlp : double.leastPlace = -1074 := lp64
  have hlast : max ((E : Int) - 1075 + mag.log2 - double.fractionBits) double.leastPlace = (E : Int) - 1075 + L - 52 := by
    rw [hl, hfb, hlp]; omega
  simp only [hlast]
  rw [hlp, bin64, inf64]
  congr 1
  have key : ((E : Int) - 1075 + L - 52 - -1074).toNat * 4503599627370496 + Toward.even.cut s (mag <<< ((E : Int) - 1075 - ((E : Int) - 1075 + L - 52)).toNat) ((E : Int) - 1075 + L - 52 - ((E : Int) - 1075)).toNat = nrmL mag E L := by
    by_cases h52 : 52 ≤ L
    · have a1 : ((E : Int) - 1075 + L - 52 - -1074).toNat = E + (L - 52) - 1 := by omega
      have a2 : ((E : Int) - 1075 - ((E : Int) - 1075 + L - 52)).toNat = 0 := by omega
      have a3 : ((E : Int) - 1075 + L - 52 - ((E : Int) - 1075)).toNat = L - 52 := by omega
      rw [a1, a2, a3, Nat.shiftLeft_zero, cutE_eq s (by rw [hl]; omega)]
      unfold nrmL
      rw [Nat.ble_eq.mpr h52]; rfl
    · have a1 : ((E : Int) - 1075 + L - 52 - -1074).toNat = E - (52 - L) - 1 := by omega
      have a2 : ((E : Int) - 1075 - ((E : Int) - 1075 + L - 52)).toNat = 52 - L := by omega
      have a3 : ((E : Int) - 1075 + L - 52 - ((E : Int) - 1075)).toNat = 0 := by omega
      rw [a1, a2, a3, cutE_eq s (by omega), cutE_zero, Nat.shiftLeft_eq]
      unfold nrmL
      have hb : Nat.ble 52 L = false := by
        cases hq : Nat.ble 52 L with
        | false => rfl
        | true => exact absurd (Nat.le_of_ble_eq_true hq) h52
      rw [hb]; rfl
  rw [key, Nat.min_eq_left (Nat.le_of_lt h4)]
/-! ### normal words -/
abbrev rgn (X : Nat) : Nat := X % 9223372036854775808
def sgn (X : Nat) : Bool := Nat.beq (X / 9223372036854775808 % 2) 1
def exn (X : Nat) : Nat := X % 9223372036854775808 / 4503599627370496
def mtn (X : Nat) : Nat := 4503599627370496 + X % 4503599627370496
def norB (X : Nat) : Bool := Nat.ble 4503599627370496 (X % 9223372036854775808) && Nat.blt (X % 9223372036854775808) 9218868437227405312
def wrd (s : Bool) (r : Nat) : Nat := bif s then 9223372036854775808 + r else r
theorem wrd_eq (s : Bool) (r : Nat) : double.word s r = wrd s r := by
  unfold Format.word wrd
  rw [sw64]
  cases s <;> rfl
theorem read_nor {X : Nat} (h : norB X = true) : double.read X = .number (sgn X) (mtn X) ((exn X : Int) - 1075) ∧ 1 ≤ exn X ∧ 4503599627370496 ≤ mtn X ∧ mtn X < 9007199254740992 := by
  unfold norB at h
  rw [Bool.and_eq_true] at h
  have h1 := Nat.le_of_ble_eq_true h.1
  have h2 : X % 9223372036854775808 < 9218868437227405312 := Nat.blt_eq.mp h.2
  have he : 1 ≤ exn X := by unfold exn; omega
  refine ⟨?_, he, by unfold mtn; omega, by unfold mtn; omega⟩
  unfold Format.read
  rw [sw64, bin64, inf64, lp64]
  simp only []
  rw [if_neg (by omega), if_pos h2]
  have e1 : X % 9223372036854775808 % 4503599627370496 = X % 4503599627370496 := by omega
  have e2 : ((X % 9223372036854775808 / 4503599627370496 - 1 : Nat) : Int) = (exn X : Int) - 1 := by unfold exn at *; omega
  rw [e1, e2]
  have e3 : (-1074 : Int) + ((exn X : Int) - 1) = (exn X : Int) - 1075 := by omega
  rw [e3, beqN]
  rfl
/-! ### the product -/
def lenM (M : Nat) : Nat := bif Nat.blt M 40564819207303340847894502572032 then 104 else 105
def qmul (X Y : Nat) : Nat := bif norB X && norB Y && Nat.ble 1076 (exn X + exn Y) && okL (mtn X * mtn Y) (exn X + exn Y - 1075) (lenM (mtn X * mtn Y)) then wrd (sgn X ^^ sgn Y) (nrmL (mtn X * mtn Y) (exn X + exn Y - 1075) (lenM (mtn X * mtn Y))) else fop .mul .f64 X Y
theorem qmul_eq (X Y : Nat) : fop .mul .f64 X Y = qmul X Y := by
  unfold qmul
  cases hc : (norB X && norB Y && Nat.ble 1076 (exn X + exn Y) && okL (mtn X * mtn Y) (exn X + exn Y - 1075) (lenM (mtn X * mtn Y))) with
  | false => rfl
  | true =>
    rw [Bool.and_eq_true, Bool.and_eq_true, Bool.and_eq_true] at hc
    obtain ⟨⟨⟨h1, h2⟩, h3⟩, h4⟩ := hc
    have h3 := Nat.le_of_ble_eq_true h3
    obtain ⟨r1, _, _, _⟩ := read_nor h1
    obtain ⟨r2, _, _, _⟩ := read_nor h2
    have hf : floatBits .mul .f64 X Y = some (double.nearest (sgn X ^^ sgn Y) (mtn X * mtn Y) ((exn X : Int) - 1075 + ((exn Y : Int) - 1075))) := by
      show ((double.read X).product (double.read Y)).map double.write = _
      rw [r1, r2]; rfl
    have e : (exn X : Int) - 1075 + ((exn Y : Int) - 1075) = ((exn X + exn Y - 1075 : Nat) : Int) - 1075 := by omega
    have : fop .mul .f64 X Y = double.nearest (sgn X ^^ sgn Y) (mtn X * mtn Y) ((exn X : Int) - 1075 + ((exn Y : Int) - 1075)) := by unfold fop; rw [hf]; rfl
    rw [this, e, nearest_nrm _ h4, wrd_eq]
    rfl
/-! ### the quotient -/
theorem quo_core {X Y m n a b V E L K : Nat} {s t : Bool} (r1 : double.read X = .number s m ((a : Int) - 1075)) (r2 : double.read Y = .number t n ((b : Int) - 1075)) (l1 : m.log2 = 52) (l2 : n.log2 = 52) (hn : n ≠ 0)
    (hK : K = 2 ^ 54) (hV : V = 2 * (m * K / n) + (!Nat.beq (m * K % n) 0).toNat) (hE : (E : Int) = a + 1020 - b) (h4 : okL V E L = true) : fop .quo .f64 X Y = wrd (s ^^ t) (nrmL V E L) := by
  obtain ⟨more, hmore⟩ : ∃ more, more = 54 + n.log2 - m.log2 := ⟨_, rfl⟩
  obtain ⟨W, hW⟩ : ∃ W, W = 2 * ((m <<< more) / n) + ((m <<< more) % n != 0).toNat := ⟨_, rfl⟩
  have hf : floatBits .quo .f64 X Y = some (double.nearest (s ^^ t) W ((a : Int) - 1075 - ((b : Int) - 1075) - more - 1)) := by
    show ((double.read X).quotient 54 (double.read Y)).map double.write = _
    rw [r1, r2]
    simp only [Datum.quotient, hn, if_false, Option.map_some, Format.write, ← hmore, ← hW]
  have hm54 : more = 54 := by rw [hmore, l1, l2]
  have hWV : W = V := by rw [hW, hV, hm54, Nat.shiftLeft_eq, ← hK, bneN]
  have e : (a : Int) - 1075 - ((b : Int) - 1075) - more - 1 = (E : Int) - 1075 := by rw [hm54]; omega
  rw [fop_some hf, e, hWV, nearest_nrm _ h4, wrd_eq]
def quoV (X Y : Nat) : Nat := 2 * (mtn X * 18014398509481984 / mtn Y) + (!Nat.beq (mtn X * 18014398509481984 % mtn Y) 0).toNat
def lenQ (V : Nat) : Nat := bif Nat.blt V 36028797018963968 then 54 else 55
def qquo (X Y : Nat) : Nat := bif norB X && norB Y && Nat.ble (exn Y) (exn X + 1019) && okL (quoV X Y) (exn X + 1020 - exn Y) (lenQ (quoV X Y)) then wrd (sgn X ^^ sgn Y) (nrmL (quoV X Y) (exn X + 1020 - exn Y) (lenQ (quoV X Y))) else fop .quo .f64 X Y
theorem mtn_log {X : Nat} (h1 : 4503599627370496 ≤ mtn X) (h2 : mtn X < 9007199254740992) : (mtn X).log2 = 52 := by
  have e1 : (2 : Nat) ^ 52 = 4503599627370496 := by decide
  have e2 : (2 : Nat) ^ (52 + 1) = 9007199254740992 := by decide
  exact log2_of (by rw [e1]; exact h1) (by rw [e2]; exact h2)
theorem cond_of {b : Bool} {x y z : Nat} (h : b = true → z = x) (h2 : z = y) : z = bif b then x else y := by
  cases b with
  | true => exact h rfl
  | false => exact h2
theorem qquo_eq (X Y : Nat) : fop .quo .f64 X Y = qquo X Y := by
  refine cond_of (fun hc => ?_) rfl
  rw [Bool.and_eq_true, Bool.and_eq_true, Bool.and_eq_true] at hc
  obtain ⟨⟨⟨h1, h2⟩, h3⟩, h4⟩ := hc
  have h3 := Nat.le_of_ble_eq_true h3
  obtain ⟨r1, _, a1, a2⟩ := read_nor h1
  obtain ⟨r2, _, b1, b2⟩ := read_nor h2
  exact quo_core r1 r2 (mtn_log a1 a2) (mtn_log b1 b2) (by omega) (K := 18014398509481984) (by decide) rfl (by omega) h4
/-! ### the sum -/
/-- the length, found by halving -/
def lgF (n : Nat) : Nat :=
  let a := bif Nat.ble 18446744073709551616 n then 64 else 0
  let b := bif Nat.ble 4294967296 (n / 2 ^ a) then a + 32 else a
  let c := bif Nat.ble 65536 (n / 2 ^ b) then b + 16 else b
  let d := bif Nat.ble 256 (n / 2 ^ c) then c + 8 else c
  let e := bif Nat.ble 16 (n / 2 ^ d) then d + 4 else d
  let f := bif Nat.ble 4 (n / 2 ^ e) then e + 2 else e
  bif Nat.ble 2 (n / 2 ^ f) then f + 1 else f
def mnE (X Y : Nat) : Nat := bif Nat.ble (exn X) (exn Y) then exn X else exn Y
def magL (X Y : Nat) : Nat := mtn X * 2 ^ (exn X - mnE X Y)
def magR (X Y : Nat) : Nat := mtn Y * 2 ^ (exn Y - mnE X Y)
/-- of the sum of magnitudes: the length -/
def lenS (X Y : Nat) : Nat := bif Nat.blt (magL X Y + magR X Y) (2 ^ (53 + (exn X - mnE X Y) + (exn Y - mnE X Y))) then 52 + (exn X - mnE X Y) + (exn Y - mnE X Y) else 53 + (exn X - mnE X Y) + (exn Y - mnE X Y)
/-- a sum with signs given: 's' and 't' -/
def qsum (s t : Bool) (X Y : Nat) (old : Nat) : Nat :=
  bif norB X && norB Y then
    bif s ^^ t then
      bif Nat.blt (magR X Y) (magL X Y) then
        bif okL (magL X Y - magR X Y) (mnE X Y) (lgF (magL X Y - magR X Y)) then wrd s (nrmL (magL X Y - magR X Y) (mnE X Y) (lgF (magL X Y - magR X Y))) else old
      else bif Nat.blt (magL X Y) (magR X Y) then
        bif okL (magR X Y - magL X Y) (mnE X Y) (lgF (magR X Y - magL X Y)) then wrd t (nrmL (magR X Y - magL X Y) (mnE X Y) (lgF (magR X Y - magL X Y))) else old
      else old
    else bif okL (magL X Y + magR X Y) (mnE X Y) (lenS X Y) then wrd s (nrmL (magL X Y + magR X Y) (mnE X Y) (lenS X Y)) else old
  else old
theorem sum_nor {s t : Bool} {X Y : Nat} (h1 : 1 ≤ exn X) (h2 : 1 ≤ exn Y) :
    (Datum.number s (mtn X) ((exn X : Int) - 1075)).sum (.number t (mtn Y) ((exn Y : Int) - 1075)) =
      some (.number (if (if s then -(magL X Y : Int) else magL X Y) + (if t then -(magR X Y : Int) else magR X Y) = 0 then s && t else decide ((if s then -(magL X Y : Int) else magL X Y) + (if t then -(magR X Y : Int) else magR X Y) < 0))
        ((if s then -(magL X Y : Int) else magL X Y) + (if t then -(magR X Y : Int) else magR X Y)).natAbs ((mnE X Y : Int) - 1075)) := by
  have hmin : min ((exn X : Int) - 1075) ((exn Y : Int) - 1075) = (mnE X Y : Int) - 1075 := by
    unfold mnE
    cases hb : Nat.ble (exn X) (exn Y) with
    | true => have := Nat.le_of_ble_eq_true hb; simp only [cond_true]; omega
    | false =>
      have : ¬ exn X ≤ exn Y := fun g => by rw [Nat.ble_eq.mpr g] at hb; cases hb
      simp only [cond_false]; omega
  have hL : mnE X Y ≤ exn X := by
    unfold mnE
    cases hb : Nat.ble (exn X) (exn Y) with
    | true => exact Nat.le_refl _
    | false =>
      have : ¬ exn X ≤ exn Y := fun g => by rw [Nat.ble_eq.mpr g] at hb; cases hb
      simp only [cond_false]; omega
  have hR : mnE X Y ≤ exn Y := by
    unfold mnE
    cases hb : Nat.ble (exn X) (exn Y) with
    | true => exact Nat.le_of_ble_eq_true hb
    | false => exact Nat.le_refl _
  have e1 : ((exn X : Int) - 1075 - ((mnE X Y : Int) - 1075)).toNat = exn X - mnE X Y := by omega
  have e2 : ((exn Y : Int) - 1075 - ((mnE X Y : Int) - 1075)).toNat = exn Y - mnE X Y := by omega
  simp only [Datum.sum, hmin, e1, e2, signed, Nat.shiftLeft_eq]
  rfl
theorem qsum_eq {s t : Bool} {X Y old : Nat} (ho : norB X = true → norB Y = true → ∀ d, (Datum.number s (mtn X) ((exn X : Int) - 1075)).sum (.number t (mtn Y) ((exn Y : Int) - 1075)) = some d → old = double.write d) : old = qsum s t X Y old := by
  unfold qsum
  cases hc : (norB X && norB Y) with
  | false => rfl
  | true =>
    rw [Bool.and_eq_true] at hc
    obtain ⟨_, g1, _, _⟩ := read_nor hc.1
    obtain ⟨_, g2, _, _⟩ := read_nor hc.2
    have hw := ho hc.1 hc.2 _ (sum_nor g1 g2)
    simp only [cond_true]
    cases s with
    | false =>
      cases t with
      | false =>
        simp only [Bool.xor_false, cond_false]
        cases hk : okL (magL X Y + magR X Y) (mnE X Y) (lenS X Y) with
        | false => rfl
        | true =>
          simp only [cond_true]
          have hn := nearest_nrm false hk
          rw [wrd_eq] at hn
          rw [← hn, hw]
          simp only [Bool.false_eq_true, if_false]
          have e1 : ((magL X Y : Int) + magR X Y).natAbs = magL X Y + magR X Y := by omega
          have e2 : (if (magL X Y : Int) + magR X Y = 0 then false && false else decide ((magL X Y : Int) + magR X Y < 0)) = false := by
            split
            · rfl
            · exact decide_eq_false (by omega)
          rw [e1, e2]; rfl
      | true =>
        simp only [Bool.xor_true, Bool.not_false, cond_true]
        cases hb : Nat.blt (magR X Y) (magL X Y) with
        | true =>
          have hlt : magR X Y < magL X Y := Nat.blt_eq.mp hb
          simp only [cond_true]
          cases hk : okL (magL X Y - magR X Y) (mnE X Y) (lgF (magL X Y - magR X Y)) with
          | false => rfl
          | true =>
            simp only [cond_true]
            have hn := nearest_nrm false hk
            rw [wrd_eq] at hn
            rw [← hn, hw]
            simp only [Bool.false_eq_true, if_false, if_true]
            have e1 : ((magL X Y : Int) + -(magR X Y : Int)).natAbs = magL X Y - magR X Y := by omega
            rw [e1, if_neg (by omega), decide_eq_false (by omega)]; rfl
        | false =>
          simp only [cond_false]
          cases hb2 : Nat.blt (magL X Y) (magR X Y) with
          | false => rfl
          | true =>
            have hlt : magL X Y < magR X Y := Nat.blt_eq.mp hb2
            simp only [cond_true]
            cases hk : okL (magR X Y - magL X Y) (mnE X Y) (lgF (magR X Y - magL X Y)) with
            | false => rfl
            | true =>
              simp only [cond_true]
              have hn := nearest_nrm true hk
              rw [wrd_eq] at hn
              rw [← hn, hw]
              simp only [Bool.false_eq_true, if_false, if_true]
              have e1 : ((magL X Y : Int) + -(magR X Y : Int)).natAbs = magR X Y - magL X Y := by omega
              rw [e1, if_neg (by omega), decide_eq_true (by omega)]; rfl
    | true =>
      cases t with
      | true =>
        simp only [Bool.xor_self, cond_false]
        cases hk : okL (magL X Y + magR X Y) (mnE X Y) (lenS X Y) with
        | false => rfl
        | true =>
          simp only [cond_true]
          have hn := nearest_nrm true hk
          rw [wrd_eq] at hn
          rw [← hn, hw]
          simp only [if_true]
          have e1 : (-(magL X Y : Int) + -(magR X Y : Int)).natAbs = magL X Y + magR X Y := by omega
          have e2 : (if -(magL X Y : Int) + -(magR X Y : Int) = 0 then true && true else decide (-(magL X Y : Int) + -(magR X Y : Int) < 0)) = true := by
            split
            · rfl
            · exact decide_eq_true (by omega)
          rw [e1, e2]; rfl
      | false =>
        simp only [Bool.xor_false, cond_true]
        cases hb : Nat.blt (magR X Y) (magL X Y) with
        | true =>
          have hlt : magR X Y < magL X Y := Nat.blt_eq.mp hb
          simp only [cond_true]
          cases hk : okL (magL X Y - magR X Y) (mnE X Y) (lgF (magL X Y - magR X Y)) with
          | false => rfl
          | true =>
            simp only [cond_true]
            have hn := nearest_nrm true hk
            rw [wrd_eq] at hn
            rw [← hn, hw]
            simp only [Bool.false_eq_true, if_false, if_true]
            have e1 : (-(magL X Y : Int) + (magR X Y : Int)).natAbs = magL X Y - magR X Y := by omega
            rw [e1, if_neg (by omega), decide_eq_true (by omega)]; rfl
        | false =>
          simp only [cond_false]
          cases hb2 : Nat.blt (magL X Y) (magR X Y) with
          | false => rfl
          | true =>
            have hlt : magL X Y < magR X Y := Nat.blt_eq.mp hb2
            simp only [cond_true]
            cases hk : okL (magR X Y - magL X Y) (mnE X Y) (lgF (magR X Y - magL X Y)) with
            | false => rfl
            | true =>
              simp only [cond_true]
              have hn := nearest_nrm false hk
              rw [wrd_eq] at hn
              rw [← hn, hw]
              simp only [Bool.false_eq_true, if_false, if_true]
              have e1 : (-(magL X Y : Int) + (magR X Y : Int)).natAbs = magR X Y - magL X Y := by omega
              rw [e1, if_neg (by omega), decide_eq_false (by omega)]; rfl
def qadd (X Y : Nat) : Nat := qsum (sgn X) (sgn Y) X Y (fop .add .f64 X Y)
def qsub (X Y : Nat) : Nat := qsum (sgn X) (!sgn Y) X Y (fop .sub .f64 X Y)
theorem qadd_eq (X Y : Nat) : fop .add .f64 X Y = qadd X Y := by
  unfold qadd
  refine qsum_eq fun h1 h2 d hd => ?_
  have hf : floatBits .add .f64 X Y = some (double.write d) := by
    show ((double.read X).sum (double.read Y)).map double.write = _
    rw [(read_nor h1).1, (read_nor h2).1, hd]; rfl
  unfold fop; rw [hf]; rfl
theorem qsub_eq (X Y : Nat) : fop .sub .f64 X Y = qsub X Y := by
  unfold qsub
  refine qsum_eq fun h1 h2 d hd => ?_
  have hf : floatBits .sub .f64 X Y = some (double.write d) := by
    show ((double.read X).sum (double.read Y).opposite).map double.write = _
    rw [(read_nor h1).1, (read_nor h2).1]
    show ((Datum.number _ _ _).sum (Datum.number (!sgn Y) _ _)).map double.write = _
    rw [hd]; rfl
  unfold fop; rw [hf]; rfl
end Go.Fl
end

/-
  PLAIN LAWS: the logarithm of a product of small numbers, made ready for the kernel. (No program here.)
-/
section
set_option exponentiation.threshold 5000
set_option linter.unusedVariables false
set_option linter.unusedSimpArgs false
namespace Go.Fl
open Go Ieee

/-! ### halves, doubles, comparing -/
theorem rv_up {r v : Nat} (h : 4503599627370496 ≤ r) : rv double (r + v * 4503599627370496) = rv double r * 2 ^ v := by
  unfold rv
  rw [bin64, if_neg (by omega), if_neg (by omega)]
  have e1 : (r + v * 4503599627370496) % 4503599627370496 = r % 4503599627370496 := by omega
  have e2 : (r + v * 4503599627370496) / 4503599627370496 - 1 = (r / 4503599627370496 - 1) + v := by omega
  rw [e1, e2, Nat.pow_add, Nat.mul_assoc]
theorem pos_mv {W : Nat} (h : W < 9218868437227405312) : mv W = rv double W ∧ Fin64 W ∧ sg W = false ∧ svd W = (rv double W : Int) := by
  have e : W % 9223372036854775808 = W := Nat.mod_eq_of_lt (by omega)
  have hs : sg W = false := by
    unfold sg ng
    have es : double.signWeight = 9223372036854775808 := sw64
    rw [es]
    have : W / 9223372036854775808 = 0 := by omega
    rw [this]; rfl
  have hm : mv W = rv double W := by unfold mv; rw [e]
  exact ⟨hm, by unfold Fin64; omega, hs, by rw [svd_pos hs, hm]⟩
theorem twice {W : Nat} (h1 : 4503599627370496 ≤ W) (h2 : W + 4503599627370496 < 9218868437227405312) : fop .mul .f64 W 4611686018427387904 = W + 4503599627370496 := by
  obtain ⟨a1, a2, a3, _⟩ := pos_mv (W := W) (by omega)
  obtain ⟨b1, b2, b3, _⟩ := pos_mv (W := 4611686018427387904) (by omega)
  obtain ⟨⟨n1, n2, n3⟩, ns⟩ := near_mul a2 b2
  rw [a3, b3] at ns
  have hv : mv W * mv 4611686018427387904 = rv double (W + 4503599627370496) * 2 ^ 1074 := by
    have e2 : rv double 4611686018427387904 = 2 ^ 1075 := by decide +kernel
    have e3 := rv_up (v := 1) h1
    rw [Nat.one_mul] at e3
    rw [a1, b1, e2, e3, Nat.mul_assoc, ← Nat.pow_add]
  obtain ⟨c1, c2⟩ := n3 (W + 4503599627370496) (by omega)
  rw [hv] at c1 c2
  have e : fop .mul .f64 W 4611686018427387904 % 9223372036854775808 = W + 4503599627370496 := Nat.le_antisymm (c1 (Nat.le_refl _)) (c2 (Nat.le_refl _))
  have hs : sg (fop .mul .f64 W 4611686018427387904) = false := ns
  unfold sg ng at hs
  have es : double.signWeight = 9223372036854775808 := sw64
  rw [es] at hs
  have : fop .mul .f64 W 4611686018427387904 / 9223372036854775808 % 2 ≠ 1 := fun g => by rw [g] at hs; cases hs
  omega
theorem cut8 (m : Nat) : cutE (m * 8) 3 = m := by
  unfold cutE
  have p3 : (2 : Nat) ^ 3 = 8 := by decide
  have q1 : m * 8 % 8 = 0 := Nat.mul_mod_left _ _
  have q2 : m * 8 / 8 = m := Nat.mul_div_cancel _ (by omega)
  rw [p3, q1, q2]
  have : (Nat.blt 8 (2 * 0) || (Nat.beq 8 (2 * 0) && Nat.beq (m % 2) 1)).toNat = 0 := rfl
  rw [this, Nat.add_zero]
theorem nrm8 {m E : Nat} : nrmL (m * 8) E 55 = (E + 3 - 1) * 4503599627370496 + m := by
  unfold nrmL
  have e1 : Nat.ble 52 55 = true := by decide
  have e0 : 55 - 52 = 3 := by decide
  rw [e1, e0, cut8]
  simp only [cond_true]
theorem half_core {W m a B : Nat} (hB : B = 4503599627370496) (r1 : double.read W = .number false m ((a : Int) - 1075)) (l1 : m.log2 = 52) (ha : 8 ≤ a) (hm1 : B ≤ m) (hm2 : m < 2 * B) (hi : (a - 2) * B + m < 9218868437227405312) :
    fop .quo .f64 W 4611686018427387904 = (a - 2) * B + m := by
  have r2 : double.read 4611686018427387904 = .number false B ((1024 : Nat) - 1075) := by rw [hB]; decide +kernel
  have l2 : B.log2 = 52 := by rw [hB]; decide +kernel
  have hK : B * 4 = 2 ^ 54 := by rw [hB]
  have hdiv : m * (B * 4) / B = m * 4 := by
    rw [Nat.mul_comm B 4, ← Nat.mul_assoc]
    exact Nat.mul_div_cancel _ (by omega)
  have hmod : m * (B * 4) % B = 0 := by
    rw [Nat.mul_comm B 4, ← Nat.mul_assoc]
    exact Nat.mul_mod_left _ _
  have hV : m * 8 = 2 * (m * (B * 4) / B) + (!Nat.beq (m * (B * 4) % B) 0).toNat := by
    rw [hdiv, hmod]
    have : (!Nat.beq 0 0).toNat = 0 := rfl
    omega
  have e1 : a - 4 + 3 - 1 = a - 2 := by omega
  have hnr : nrmL (m * 8) (a - 4) 55 = (a - 2) * B + m := by rw [nrm8, e1, hB]
  have hok : okL (m * 8) (a - 4) 55 = true := by
    unfold okL
    rw [hnr]
    have p1 : (2 : Nat) ^ 55 = 8 * B := by rw [hB]
    have p2 : (2 : Nat) ^ (55 + 1) = 16 * B := by rw [hB]
    rw [p1, p2, Bool.and_eq_true, Bool.and_eq_true, Bool.and_eq_true, Bool.and_eq_true]
    exact ⟨⟨⟨⟨Nat.ble_eq.mpr (by omega), Nat.blt_eq.mpr (by omega)⟩, Nat.ble_eq.mpr (by omega)⟩, Nat.blt_eq.mpr hi⟩, Nat.ble_eq.mpr (by omega)⟩
  have := quo_core r1 r2 l1 l2 (by omega) hK hV (E := a - 4) (by omega) hok
  rw [this, hnr]
  unfold wrd
  simp only [Bool.xor_self, cond_false]
theorem half {W : Nat} (h1 : 9007199254740992 * 4 ≤ W) (h2 : W < 9218868437227405312) : fop .quo .f64 W 4611686018427387904 = W - 4503599627370496 := by
  have hn : norB W = true := by
    unfold norB
    have e : W % 9223372036854775808 = W := Nat.mod_eq_of_lt (by omega)
    rw [e, Bool.and_eq_true]
    exact ⟨Nat.ble_eq.mpr (by omega), Nat.blt_eq.mpr h2⟩
  obtain ⟨r1, g1, a1, a2⟩ := read_nor hn
  have hs : sgn W = false := by
    unfold sgn
    have : W / 9223372036854775808 = 0 := by omega
    rw [this]; rfl
  rw [hs] at r1
  have he : exn W = W / 4503599627370496 := by
    unfold exn
    rw [Nat.mod_eq_of_lt (show W < 9223372036854775808 by omega)]
  have hm : mtn W = 4503599627370496 + W % 4503599627370496 := rfl
  have l1 := mtn_log a1 a2
  obtain ⟨m, hmm⟩ : ∃ m, m = mtn W := ⟨_, rfl⟩
  obtain ⟨a, haa⟩ : ∃ a, a = exn W := ⟨_, rfl⟩
  rw [← hmm] at r1 a1 a2 l1 hm
  rw [← haa] at r1 g1 he
  have hdm := Nat.div_add_mod W 4503599627370496
  rw [← he] at hdm
  obtain ⟨B, hB⟩ : ∃ B, B = 4503599627370496 := ⟨_, rfl⟩
  rw [← hB] at hdm hm a1 ⊢
  obtain ⟨f, hf⟩ : ∃ f, f = W % B := ⟨_, rfl⟩
  rw [← hf] at hdm hm
  have h8 : 8 ≤ a := by omega
  obtain ⟨c, rfl⟩ : ∃ c, a = c + 2 := ⟨a - 2, by omega⟩
  have hc : B * (c + 2) = c * B + 2 * B := by rw [Nat.mul_comm, Nat.add_mul]
  have h2c : c + 2 - 2 = c := by omega
  have := half_core (W := W) hB r1 l1 h8 a1 (by omega) (by rw [h2c]; omega)
  rw [this, h2c]
  omega
theorem fge_pos {W C : Nat} (h1 : W < 9218868437227405312) (h2 : C < 9218868437227405312) : fge .f64 W C = decide (C ≤ W) := by
  obtain ⟨_, a2, _, a4⟩ := pos_mv h1
  obtain ⟨_, b2, _, b4⟩ := pos_mv h2
  rw [fge_fin a2 b2, a4, b4, Bool.eq_iff_iff, decide_eq_true_eq, decide_eq_true_eq]
  constructor
  · intro h; exact le_of_rv_le double (by omega)
  · intro h; have := rv_le double h; omega
theorem flt_pos {W C : Nat} (h1 : W < 9218868437227405312) (h2 : C < 9218868437227405312) : flt .f64 W C = decide (W < C) := by
  obtain ⟨_, a2, _, a4⟩ := pos_mv h1
  obtain ⟨_, b2, _, b4⟩ := pos_mv h2
  rw [flt_fin a2 b2, a4, b4, Bool.eq_iff_iff, decide_eq_true_eq, decide_eq_true_eq]
  constructor
  · intro h; exact lt_of_rv_lt double (by omega)
  · intro h; have := rv_lt double h; omega
/-! ### the logarithm's number brought between 3/4 and 3/2 -/
section
variable {B C : Nat}
theorem dn_eq (hB : B = 4503599627370496) (hC : C = 4604930618986332160) : ∀ (k W n : Nat), C ≤ W → W < C + 101 * B → (W < C + (k + 1) * B) → ∃ j : Nat, dn k W n = (W - j * B, n + j) ∧ C + j * B ≤ W ∧ W < C + B + j * B
  | 0, W, n, h1, h2, h3 => by
    have e : (0 + 1) * B = B := by rw [Nat.zero_add, Nat.one_mul]
    have z : 0 * B = 0 := Nat.zero_mul B
    rw [e] at h3
    exact ⟨0, by rw [z, Nat.sub_zero, Nat.add_zero]; rfl, by omega, by omega⟩
  | k + 1, W, n, h1, h2, h3 => by
    have hinf : W < 9218868437227405312 := by omega
    have hs : (k + 1 + 1) * B = (k + 1) * B + B := Nat.succ_mul _ _
    rw [dn, fge_pos hinf (by omega)]
    by_cases hc : 4609434218613702656 ≤ W
    · have hh := half (W := W) (by omega) hinf
      rw [← hB] at hh
      rw [decide_eq_true hc, if_pos rfl, hh]
      obtain ⟨j, e, g1, g2⟩ := dn_eq hB hC k (W - B) (n + 1) (by omega) (by omega) (by omega)
      have hj : (j + 1) * B = j * B + B := Nat.succ_mul _ _
      refine ⟨j + 1, ?_, by omega, by omega⟩
      rw [e]
      have a1 : W - B - j * B = W - (j + 1) * B := by omega
      have a2 : n + 1 + j = n + (j + 1) := by omega
      rw [a1, a2]
    · rw [decide_eq_false hc, if_neg (by simp)]
      have z : 0 * B = 0 := Nat.zero_mul B
      exact ⟨0, by rw [z, Nat.sub_zero, Nat.add_zero], by omega, by omega⟩
theorem up_eq (hB : B = 4503599627370496) (hC : C = 4604930618986332160) : ∀ (k W n : Nat), B ≤ W → W < C + B → C ≤ W + k * B → ∃ j : Nat, up k W n = (W + j * B, n + j) ∧ C ≤ W + j * B ∧ W + j * B < C + B
  | 0, W, n, h1, h2, h3 => by
    have z : 0 * B = 0 := Nat.zero_mul B
    exact ⟨0, by rw [z, Nat.add_zero, Nat.add_zero]; rfl, by omega, by omega⟩
  | k + 1, W, n, h1, h2, h3 => by
    have hs : (k + 1) * B = k * B + B := Nat.succ_mul _ _
    rw [up, flt_pos (by omega) (by omega)]
    by_cases hc : W < 4604930618986332160
    · have hh := twice (W := W) (by omega) (by omega)
      rw [← hB] at hh
      rw [decide_eq_true hc, if_pos rfl, hh]
      obtain ⟨j, e, g1, g2⟩ := up_eq hB hC k (W + B) (n + 1) (by omega) (by omega) (by omega)
      have hj : (j + 1) * B = j * B + B := Nat.succ_mul _ _
      refine ⟨j + 1, ?_, by omega, by omega⟩
      rw [e]
      have a1 : W + B + j * B = W + (j + 1) * B := by omega
      have a2 : n + 1 + j = n + (j + 1) := by omega
      rw [a1, a2]
    · rw [decide_eq_false hc, if_neg (by simp)]
      have z : 0 * B = 0 := Nat.zero_mul B
      exact ⟨0, by rw [z, Nat.add_zero, Nat.add_zero], by omega, by omega⟩
/-- the number between 3/4 and 3/2 and how often it was halved: what the logarithm is taken of -/
theorem logF_norm (hB : B = 4503599627370496) (hC : C = 4604930618986332160) {W Z i j : Nat} (h1 : C ≤ Z) (h2 : Z < C + B) (he : W + j * B = Z + i * B) (hij : i = 0 ∨ j = 0) (g1 : i * B ≤ 50 * B) (g2 : j * B ≤ 50 * B) : logF W = logTail Z ((i : Int) - j) := by
  unfold logF
  have z : 0 * B = 0 := Nat.zero_mul B
  rcases hij with rfl | rfl
  · rw [z] at he
    have e1 : dn 128 W 0 = (W - 0 * B, 0 + 0) := by
      have hinf : W < 9218868437227405312 := by omega
      rw [dn, fge_pos hinf (by omega), decide_eq_false (by omega), if_neg (by simp), z, Nat.sub_zero]
    obtain ⟨q, u1, u2, u3⟩ := up_eq hB hC 149 W 0 (by omega) (by omega) (by omega)
    have hz : W + q * B = Z := by
      rcases Nat.lt_trichotomy q j with g | g | g
      · have := Nat.mul_le_mul_right B (show q + 1 ≤ j by omega)
        rw [Nat.succ_mul] at this
        omega
      · subst g; omega
      · have := Nat.mul_le_mul_right B (show j + 1 ≤ q by omega)
        rw [Nat.succ_mul] at this
        omega
    have hq : q = j := by
      have h5 : q * B = j * B := by omega
      exact Nat.eq_of_mul_eq_mul_right (by omega) h5
    rw [e1, z, Nat.sub_zero]
    show logTail (up 149 W 0).1 (((0 + 0 : Nat) : Int) - ((up 149 W 0).2 : Int)) = _
    rw [u1]
    show logTail (W + q * B) (((0 + 0 : Nat) : Int) - ((0 + q : Nat) : Int)) = _
    rw [hz, hq]
    congr 1
    omega
  · rw [z] at he
    obtain ⟨p, e1, q1, q2⟩ := dn_eq hB hC 128 W 0 (by omega) (by omega) (by omega)
    have hz : W - p * B = Z ∧ p = i := by
      rcases Nat.lt_trichotomy p i with g | g | g
      · have := Nat.mul_le_mul_right B (show p + 1 ≤ i by omega)
        rw [Nat.succ_mul] at this
        omega
      · subst g; exact ⟨by omega, rfl⟩
      · have := Nat.mul_le_mul_right B (show i + 1 ≤ p by omega)
        rw [Nat.succ_mul] at this
        omega
    obtain ⟨q, u1, u2, u3⟩ := up_eq hB hC 149 Z 0 (by omega) (by omega) (by omega)
    have hq : q = 0 := by
      rcases Nat.eq_zero_or_pos q with g | g
      · exact g
      · have := Nat.mul_le_mul_right B (show 1 ≤ q by omega)
        omega
    rw [e1, hz.1, hz.2]
    show logTail (up 149 Z 0).1 (((0 + i : Nat) : Int) - ((up 149 Z 0).2 : Int)) = _
    rw [u1, hq, z]
    show logTail (Z + 0) (((0 + i : Nat) : Int) - ((0 + 0 : Nat) : Int)) = _
    rw [Nat.add_zero]
    congr 1
    omega
end
/-! ### products of eighths -/
/-- a positive word of 32 bits and its value -/
def P32 (X v : Nat) : Prop := X < 2139095040 ∧ rv Ieee.single X = v
theorem P32.nor {X v : Nat} (h : P32 X v) : X % 2147483648 = X ∧ ng FloatKind.f32.format X = false := by
  have := h.1
  refine ⟨Nat.mod_eq_of_lt (by omega), ?_⟩
  rw [ng32]
  have : X / 2147483648 = 0 := by omega
  rw [this]; rfl
theorem P32.mul {X Y i j : Nat} (hX : P32 X (i * 2 ^ 146)) (hY : P32 Y (j * 2 ^ 146)) (hij : i * j < 16777216) : P32 (fop .mul .f32 X Y) (i * j * 2 ^ 143) := by
  have wX : X = Ieee.single.word false X := rfl
  have wY : Y = Ieee.single.word false Y := rfl
  obtain ⟨m, a, r1, a1, a2, _⟩ := read_fin Ieee.single false (r := X) (by rw [inf32]; exact hX.1)
  obtain ⟨n, b, r2, b1, b2, _⟩ := read_fin Ieee.single false (r := Y) (by rw [inf32]; exact hY.1)
  rw [hX.2] at a2
  rw [hY.2] at b2
  rw [lp32] at a1 a2 b1 b2
  obtain ⟨r, g1, g2⟩ := exists_rung Ieee.single 143 (i * j) (by rw [bin32]; omega)
  rw [bin32] at g2
  have hr : r < 2139095040 := Nat.lt_of_lt_of_le g2 (by decide)
  have hf : floatBits .mul .f32 X Y = some (Ieee.single.nearest false (m * n) (a + b)) := by
    show ((Ieee.single.read X).product (Ieee.single.read Y)).map Ieee.single.write = _
    have q1 : Ieee.single.read X = .number false m a := r1
    have q2 : Ieee.single.read Y = .number false n b := r2
    rw [q1, q2]; rfl
  have hne : Ieee.single.nearest false (m * n) (a + b) = Ieee.single.word false r := by
    refine nearest_exact _ _ (by rw [inf32]; omega) ?_
    rw [lp32, g1]
    obtain ⟨A, hA⟩ : ∃ A : Nat, (a - -149).toNat = A := ⟨_, rfl⟩
    obtain ⟨B, hB⟩ : ∃ B : Nat, (b - -149).toNat = B := ⟨_, rfl⟩
    obtain ⟨c, hc⟩ : ∃ c : Nat, (a + b - -149).toNat = c := ⟨_, rfl⟩
    obtain ⟨d, hd⟩ : ∃ d : Nat, (-149 - (a + b)).toNat = d := ⟨_, rfl⟩
    rw [hA] at a2
    rw [hB] at b2
    rw [hc, hd]
    have hs : c + 149 = A + B + d := by omega
    refine Nat.eq_of_mul_eq_mul_right (Nat.two_pow_pos 149) ?_
    calc m * n * 2 ^ c * 2 ^ 149 = m * n * 2 ^ (c + 149) := by rw [Nat.pow_add]; ac_rfl
      _ = m * n * 2 ^ (A + B + d) := by rw [hs]
      _ = m * 2 ^ A * (n * 2 ^ B) * 2 ^ d := by rw [Nat.pow_add, Nat.pow_add]; ac_rfl
      _ = i * 2 ^ 146 * (j * 2 ^ 146) * 2 ^ d := by rw [a2, b2]
      _ = i * j * 2 ^ (146 + 146) * 2 ^ d := by rw [Nat.pow_add 2 146 146]; ac_rfl
      _ = i * j * 2 ^ 143 * 2 ^ d * 2 ^ 149 := by rw [show 146 + 146 = 143 + 149 from rfl, Nat.pow_add 2 143 149]; ac_rfl
  have e : fop .mul .f32 X Y = r := by rw [fop_some hf, hne]; rfl
  rw [e]
  exact ⟨hr, g1⟩
/-- a positive word of 64 bits: 'k' sixty-fourths -/
def D64 (D k : Nat) : Prop := D < 9218868437227405312 ∧ rv double D = k * 2 ^ 1068
theorem P32.wid {Z k : Nat} (h : P32 Z (k * 2 ^ 143)) : D64 (wid Z) k := by
  have hlt := h.1
  have hn : isn .f32 Z = false := by rw [isn32, decide_eq_false_iff_not]; omega
  obtain ⟨e1, e2⟩ := h.nor
  obtain ⟨r0, _, h1, h2, _⟩ := wid_cases (X := Z) (by omega) hn
  rw [e1] at h2
  obtain ⟨k1, k2⟩ := h2 hlt
  rw [e2] at h1
  have e : Fl.wid Z = r0 := h1
  rw [e]
  refine ⟨k1, ?_⟩
  rw [k2, h.2, Nat.mul_assoc, ← Nat.pow_add]
theorem D64.same {D E k : Nat} (h : D64 D k) (g : D64 E k) : D = E := eq_of_rv_eq double (h.2.trans g.2.symm)
theorem D64.up {D k v : Nat} (h : D64 D k) (h1 : 4503599627370496 ≤ D) (h2 : D + v * 4503599627370496 < 9218868437227405312) : D64 (D + v * 4503599627370496) (k * 2 ^ v) :=
  ⟨h2, by rw [rv_up h1, h.2]; ac_rfl⟩
end Go.Fl
end

/-
  TENTHS OF DECIBELS OF PRODUCTS, made ready for the kernel. (No program here.)
-/
section
set_option exponentiation.threshold 5000
set_option linter.unusedVariables false
set_option linter.unusedSimpArgs false
namespace Go.Fl
open Go Ieee

def ksR : List Nat := [4607182418800017408, 4599676419421066581, 4596373779694328218, 4594314991293244562, 4592670820000712476, 4591215111030249286, 4590207312512236308, 4589468260265693457, 4588638185040256542, 4587745830934523688, 4587023449039406616, 4586426698778222948, 4585925428558828667]
def lnT : List Nat := [13841301370050329071, 13840520955704308401, 13839740541358287731, 13838358599114999915, 13836797770422958575, 13835236941730917235, 13832294170795588079, 13827790571168217583, 0, 4604418534313441775, 4608922133940812271, 4611864904876141427, 4613425733568182767, 4614986562260224107, 4616368504503511923, 4617148918849532593, 4617929333195553263, 4618709747541573933, 4619490161887594603, 4620270576233615273]
def t8 : List Nat := [0, 10, 40, 57, 70, 80, 88, 94, 100, 105, 110, 114, 118, 121, 124, 127, 130, 133, 135, 138, 140, 142, 144, 146, 148, 149, 151, 153, 154, 156, 157, 159, 160, 162, 163, 164, 165, 167, 168, 169, 170, 171, 172, 173, 174, 175, 176, 177, 178, 179, 180, 180, 181, 182, 183, 184, 185, 185, 186, 187, 188, 188, 189, 190, 190, 191, 192, 192, 193, 194, 194, 195, 195, 196, 197, 197, 198, 198, 199, 199, 200, 201, 201, 202, 202, 203, 203, 204, 204, 205, 205, 206, 206, 207, 207, 207, 208, 208, 209, 209, 210, 210, 211, 211, 211, 212, 212, 213, 213, 213, 214, 214, 215, 215, 215, 216, 216, 217, 217, 217, 218, 218, 218, 219, 219, 219, 220, 220, 220, 221, 221, 221, 222, 222, 222, 223, 223, 223, 224, 224, 224, 225, 225, 225, 226, 226, 226, 226, 227, 227, 227, 228, 228, 228, 228, 229, 229, 229, 230, 230, 230, 230, 231, 231, 231, 231, 232, 232, 232, 232, 233, 233, 233, 233, 234, 234, 234, 234, 235, 235, 235, 235, 236, 236, 236, 236, 237, 237, 237, 237, 238, 238, 238, 238, 238, 239, 239, 239, 239, 240, 240]
theorem ks_ok : ∀ j : Fin 13, fop .quo .f64 c1 (fi (2 * ((j.val + 1 : Nat) : Int) - 1)) = ksR.getD j.val 0 := by decide +kernel
theorem ln_ok : ∀ x : Fin 20, fop .mul .f64 (fi ((x.val : Int) - 8)) 4604418534313441775 = lnT.getD x.val 0 := by decide +kernel
def qser (u : Nat) : Nat → Nat → Nat
  | 0, q => q
  | j + 1, q => qser u j (qadd (ksR.getD j 0) (qmul u q))
theorem ser_q (u : Nat) : ∀ (j q : Nat), j ≤ 13 → ser u j q = qser u j q
  | 0, q, _ => rfl
  | j + 1, q, h => by
    rw [ser, qser, ks_ok ⟨j, by omega⟩, qadd_eq, qmul_eq]
    exact ser_q u j _ (by omega)
theorem mul_nought {u : Nat} (h : norB u = true) (hs : sgn u = false) : fop .mul .f64 u 0 = 0 := by
  obtain ⟨r1, _, _, _⟩ := read_nor h
  have r2 : double.read 0 = .number false 0 (-1074) := by decide +kernel
  have hf : floatBits .mul .f64 u 0 = some (double.nearest (sgn u ^^ false) (mtn u * 0) ((exn u : Int) - 1075 + -1074)) := by
    show ((double.read u).product (double.read 0)).map double.write = _
    rw [r1, r2]; rfl
  rw [fop_some hf, hs, Nat.mul_zero]
  unfold Format.nearest
  rw [if_pos rfl]
  rfl
theorem k12_zero : fop .add .f64 (ksR.getD 12 0) 0 = ksR.getD 12 0 := by decide +kernel
def qs_ (Z : Nat) : Nat := qquo (qsub Z 4607182418800017408) (qadd Z 4607182418800017408)
def qS0 (Z : Nat) : Nat := qmul 4611686018427387904 (qmul (qs_ Z) (qser (qmul (qs_ Z) (qs_ Z)) 12 (ksR.getD 12 0)))
def goodU (u : Nat) : Bool := norB u && !sgn u
def qS (Z : Nat) : Nat := bif Nat.beq Z 4607182418800017408 then 0 else qS0 Z
def goodZ (Z : Nat) : Bool := Nat.beq Z 4607182418800017408 || goodU (qmul (qs_ Z) (qs_ Z))
theorem S_one : fop .mul .f64 c2 (fop .mul .f64 (logS 4607182418800017408) (ser (logU 4607182418800017408) 13 0)) = 0 := by decide +kernel
theorem logS_q (Z : Nat) : logS Z = qs_ Z := by
  unfold logS qs_ c1
  rw [qsub_eq, qadd_eq, qquo_eq]
theorem ser13 {u : Nat} (h : norB u = true) (hs : sgn u = false) : ser u 13 0 = ser u 12 (ksR.getD 12 0) := by
  have e : ser u 13 0 = ser u 12 (fop .add .f64 (fop .quo .f64 c1 (fi (2 * ((12 + 1 : Nat) : Int) - 1))) (fop .mul .f64 u 0)) := by rw [ser]
  have k := ks_ok ⟨12, by omega⟩
  rw [e, mul_nought h hs, k, k12_zero]
theorem logU_q (Z : Nat) : logU Z = qmul (qs_ Z) (qs_ Z) := by unfold logU; rw [logS_q, qmul_eq]
theorem ser_q13 {u : Nat} (h : goodU u = true) : ser u 13 0 = qser u 12 (ksR.getD 12 0) := by
  unfold goodU at h
  rw [Bool.and_eq_true, Bool.not_eq_true'] at h
  rw [ser13 h.1 h.2]
  exact ser_q _ 12 _ (by omega)
theorem S_core (t a b c : Nat) (hb : b = c) : fop .mul .f64 t (fop .mul .f64 a b) = qmul t (qmul a c) := by rw [hb, qmul_eq, qmul_eq]
theorem S_q0 {Z : Nat} (h : goodU (qmul (qs_ Z) (qs_ Z)) = true) : fop .mul .f64 c2 (fop .mul .f64 (logS Z) (ser (logU Z) 13 0)) = qS0 Z := by
  have e3 : ser (logU Z) 13 0 = qser (qmul (qs_ Z) (qs_ Z)) 12 (ksR.getD 12 0) := (congrArg (fun u => ser u 13 0) (logU_q Z)).trans (ser_q13 h)
  have e4 := S_core c2 (logS Z) _ _ e3
  rw [logS_q] at e4 ⊢
  exact e4
theorem S_q {Z : Nat} (h : goodZ Z = true) : fop .mul .f64 c2 (fop .mul .f64 (logS Z) (ser (logU Z) 13 0)) = qS Z := by
  unfold goodZ at h
  unfold qS
  cases hb : Nat.beq Z 4607182418800017408 with
  | true =>
    have e := Nat.eq_of_beq_eq_true hb
    simp only [cond_true]
    rw [e]
    exact S_one
  | false =>
    rw [hb, Bool.false_or] at h
    simp only [cond_false]
    exact S_q0 h
/-- the whole of the tenths of a number brought between 3/4 and 3/2, 'x - 8' times halved -/
def qT (S x : Nat) : Int := toI (fcut .down (qadd (qmul (qadd S (lnT.getD x 0)) 4631308968768463603) 4602678819172646912))
/-- the tenths, of the word itself -/
def tenW (W : Nat) : Int := toI (fcut .down (fop .add .f64 (fop .mul .f64 (logF W) 4631308968768463603) 4602678819172646912))
theorem T_core (S L K H S' L' : Nat) (hs : S = S') (hl : L = L') : toI (fcut .down (fop .add .f64 (fop .mul .f64 (fop .add .f64 S L) K) H)) = toI (fcut .down (qadd (qmul (qadd S' L') K) H)) := by
  rw [hs, hl, qadd_eq, qadd_eq, qmul_eq]
theorem T_q {Z x : Nat} {e : Int} (h : goodZ Z = true) (hx : x < 20) (he : e = (x : Int) - 8) :
    toI (fcut .down (fop .add .f64 (fop .mul .f64 (logTail Z e) 4631308968768463603) 4602678819172646912)) = qT (qS Z) x := by
  have hl : fop .mul .f64 (fi e) 4604418534313441775 = lnT.getD x 0 := by rw [he]; exact ln_ok ⟨x, hx⟩
  exact T_core _ _ _ _ _ _ (S_q h) hl
/-- 'k' sixty-fourths: the word, and it brought between 3/4 and 3/2 -/
def wdq (k : Nat) : Nat := nrmL k 1069 (lgF k)
def upG (C B D : Nat) : Nat := bif Nat.ble C D then 0 else (C - D + (B - 1)) / B
def dnG (C B D : Nat) : Nat := bif Nat.ble C D then (D - C) / B else 0
def znG (C B D : Nat) : Nat := D + upG C B D * B - dnG C B D * B
theorem zn_ok {C B D : Nat} (hB : 0 < B) (hC : B ≤ C) : C ≤ znG C B D ∧ znG C B D < C + B ∧ D + upG C B D * B = znG C B D + dnG C B D * B ∧ (dnG C B D = 0 ∨ upG C B D = 0) := by
  unfold znG
  by_cases hc : C ≤ D
  · have e1 : upG C B D = 0 := by unfold upG; rw [Nat.ble_eq.mpr hc]; rfl
    have e2 : dnG C B D = (D - C) / B := by unfold dnG; rw [Nat.ble_eq.mpr hc]; rfl
    rw [e1, e2, Nat.zero_mul, Nat.add_zero]
    have q1 := Nat.div_add_mod (D - C) B
    have q2 := Nat.mod_lt (D - C) hB
    rw [Nat.mul_comm] at q1
    omega
  · have hb : Nat.ble C D = false := by
      cases hq : Nat.ble C D with
      | false => rfl
      | true => exact absurd (Nat.le_of_ble_eq_true hq) hc
    have e1 : upG C B D = (C - D + (B - 1)) / B := by unfold upG; rw [hb]; rfl
    have e2 : dnG C B D = 0 := by unfold dnG; rw [hb]; rfl
    rw [e1, e2, Nat.zero_mul, Nat.sub_zero, Nat.add_zero]
    have q1 := Nat.div_add_mod (C - D + (B - 1)) B
    have q2 := Nat.mod_lt (C - D + (B - 1)) hB
    rw [Nat.mul_comm] at q1
    omega
abbrev upj (D : Nat) : Nat := upG 4604930618986332160 4503599627370496 D
abbrev dni (D : Nat) : Nat := dnG 4604930618986332160 4503599627370496 D
abbrev znq (D : Nat) : Nat := znG 4604930618986332160 4503599627370496 D
/-- the logarithm of a number that stands 'v' octaves above another -/
theorem tenW_at {B C D v x : Nat} (hB : B = 4503599627370496) (hC : C = 4604930618986332160) (h4 : goodZ (znG C B D) = true) (h5 : upG C B D ≤ 7) (h6 : dnG C B D ≤ 11) (hx : x = dnG C B D + v + 8 - upG C B D) (hv : x < 20) :
    tenW (D + v * B) = qT (qS (znG C B D)) x := by
  obtain ⟨z1, z2, z3, z4⟩ := zn_ok (C := C) (B := B) (D := D) (by omega) (by omega)
  obtain ⟨i, hi⟩ : ∃ i, i = dnG C B D := ⟨_, rfl⟩
  obtain ⟨j, hj⟩ : ∃ j, j = upG C B D := ⟨_, rfl⟩
  rw [← hi, ← hj] at z3 hx
  rw [← hi] at h6
  rw [← hj] at h5
  obtain ⟨Z, hZ⟩ : ∃ Z, Z = znG C B D := ⟨_, rfl⟩
  rw [← hZ] at z1 z2 z3 h4 ⊢
  unfold tenW
  have hlog : logF (D + v * B) = logTail Z (((i + v - j : Nat) : Int) - ((j - (i + v) : Nat) : Int)) := by
    refine logF_norm hB hC z1 z2 ?_ (by omega) ?_ ?_
    · have e := Nat.sub_mul (i + v) j B
      have e2 := Nat.sub_mul j (i + v) B
      have e3 : (i + v) * B = i * B + v * B := Nat.add_mul _ _ _
      rcases Nat.le_total j (i + v) with g | g
      · have e4 := Nat.mul_le_mul_right B g
        have e5 : j - (i + v) = 0 := by omega
        rw [e5, Nat.zero_mul]
        omega
      · have e4 := Nat.mul_le_mul_right B g
        have e5 : i + v - j = 0 := by omega
        rw [e5, Nat.zero_mul]
        omega
    · exact Nat.mul_le_mul_right B (by omega)
    · exact Nat.mul_le_mul_right B (by omega)
  rw [hlog]
  exact T_q h4 hv (by omega)
def okD (k : Nat) : Bool := Nat.beq (rv double (wdq k)) (k * 2 ^ 1068) && Nat.ble 4562146422526312448 (wdq k) && Nat.blt (wdq k) 4652218415073722368 && goodZ (znq (wdq k)) && Nat.ble (upj (wdq k)) 7 && Nat.ble (dni (wdq k)) 11
theorem okD_of {k : Nat} (h : okD k = true) : D64 (wdq k) k ∧ 4562146422526312448 ≤ wdq k ∧ wdq k < 4652218415073722368 ∧ goodZ (znq (wdq k)) = true ∧ upj (wdq k) ≤ 7 ∧ dni (wdq k) ≤ 11 := by
  unfold okD at h
  rw [Bool.and_eq_true, Bool.and_eq_true, Bool.and_eq_true, Bool.and_eq_true, Bool.and_eq_true] at h
  obtain ⟨⟨⟨⟨⟨h1, h2⟩, h3⟩, h4⟩, h5⟩, h6⟩ := h
  have k3 : wdq k < 4652218415073722368 := Nat.blt_eq.mp h3
  exact ⟨⟨by omega, Nat.eq_of_beq_eq_true h1⟩, Nat.le_of_ble_eq_true h2, k3, h4, Nat.le_of_ble_eq_true h5, Nat.le_of_ble_eq_true h6⟩
theorem ten_q {k v : Nat} (h : okD k = true) (hv : dni (wdq k) + v + 8 - upj (wdq k) < 20) : D64 (wdq k + v * 4503599627370496) (k * 2 ^ v) ∧ tenW (wdq k + v * 4503599627370496) = qT (qS (znq (wdq k))) (dni (wdq k) + v + 8 - upj (wdq k)) := by
  obtain ⟨h1, h2, h3, h4, h5, h6⟩ := okD_of h
  refine ⟨h1.up (by omega) ?_, tenW_at rfl rfl h4 h5 h6 rfl hv⟩
  have hv12 : v ≤ 18 := by omega
  omega
/-! ### what the kernel checks -/
def nearT (A : Nat) (t : Int) : Bool := decide ((A : Int) ≤ t + 201) && decide (t + 199 ≤ (A : Int))
def chkV (S x a b : Nat) : Bool := (List.range 8).all fun p => (List.range 8).all fun q =>
  Nat.blt 200 (a * 2 ^ p) || Nat.blt 200 (b * 2 ^ q) || (Nat.blt (x + (p + q)) 20 && nearT (t8.getD (a * 2 ^ p) 0 + t8.getD (b * 2 ^ q) 0) (qT S (x + (p + q))))
def chkAB (a b : Nat) : Bool := okD (a * b) && Nat.ble (upj (wdq (a * b))) (dni (wdq (a * b)) + 8) && chkV (qS (znq (wdq (a * b)))) (dni (wdq (a * b)) + 8 - upj (wdq (a * b))) a b
def chkRow (n : Nat) : Bool := (List.range (n + 1)).all fun m => chkAB (2 * n + 1) (2 * m + 1)
def chkRows (lo len : Nat) : Bool := (List.range len).all fun i => chkRow (lo + i)
def chkT8 (i : Nat) : Bool := okD (8 * i) && Nat.ble (upj (wdq (8 * i))) (dni (wdq (8 * i)) + 8) && Nat.blt (dni (wdq (8 * i)) + 8 - upj (wdq (8 * i))) 20 && decide (qT (qS (znq (wdq (8 * i)))) (dni (wdq (8 * i)) + 8 - upj (wdq (8 * i))) = (t8.getD i 0 : Int) - 100)
theorem t8_all : (List.range 200).all (fun i => chkT8 (i + 1)) = true := by decide +kernel
end Go.Fl
end
