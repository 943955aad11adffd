/-
  PLAIN LAWS: sines of turns. (No program here.)
-/
import Derived.Test.YtkcdccfajjhacaaTrn
set_option exponentiation.threshold 5000
set_option linter.unusedVariables false
set_option linter.unusedSimpArgs false
namespace Go.Fl
open Go Ieee

/-- what is left of turns, from 0 on -/
def frac (X : Nat) : Nat := if flt .f64 (fop .sub .f64 X (fi (toI X))) 0 then fop .add .f64 (fop .sub .f64 X (fi (toI X))) c1 else fop .sub .f64 X (fi (toI X))
def serS (u : Nat) : Nat → Nat → Nat
  | 0, p => p
  | k + 1, p => serS u k (fop .sub .f64 c1 (fop .quo .f64 (fop .mul .f64 u p) (fi (2 * ((k + 1 : Nat) : Int) * (2 * ((k + 1 : Nat) : Int) + 1)))))
abbrev cHalf : Nat := 4602678819172646912
abbrev cQuarter : Nat := 4598175219545276416
abbrev cTurn : Nat := 4618760256179416344
def f1F (F : Nat) : Nat := if fge .f64 F cHalf then fop .sub .f64 F cHalf else F
def f2F (F : Nat) : Nat := if fgt .f64 (f1F F) cQuarter then fop .sub .f64 cHalf (f1F F) else f1F F
def sinZ (F : Nat) : Nat := fop .mul .f64 (f2F F) cTurn
def sinF (F : Nat) : Nat := fop .mul .f64 (sinZ F) (serS (fop .mul .f64 (sinZ F) (sinZ F)) 8 c1)
def sinW (X : Nat) : Nat := if fge .f64 (frac X) cHalf then fneg .f64 (sinF (frac X)) else sinF (frac X)

theorem frac_bd {X : Nat} (h : Bd X 1126) : Bd (frac X) 1075 := by
  unfold frac
  split
  · exact bd_add (fr_bd h) bd_c1 (by omega)
  · exact (fr_bd h).mono (by omega)
theorem bd_half : Bd cHalf 1074 := ⟨by decide, by unfold Fin64; decide, by decide +kernel⟩
theorem bd_turn : Bd cTurn 1077 := ⟨by decide, by unfold Fin64; decide, by decide +kernel⟩
theorem f1_bd {F : Nat} (h : Bd F 1075) : Bd (f1F F) 1076 := by
  unfold f1F
  split
  · exact bd_sub h (bd_half.mono (by omega)) (by omega)
  · exact h.mono (by omega)
theorem f2_bd {F : Nat} (h : Bd F 1075) : Bd (f2F F) 1077 := by
  unfold f2F
  split
  · exact bd_sub (bd_half.mono (by omega)) (f1_bd h) (by omega)
  · exact (f1_bd h).mono (by omega)
theorem bd_serS {u : Nat} (hu : Bd u 1086) : ∀ (k p q : Nat), k ≤ 8 → Bd p q → 1075 ≤ q → q + 12 * k ≤ 1300 → Bd (serS u k p) (q + 12 * k)
  | 0, p, q, _, hp, _, _ => hp
  | k + 1, p, q, hk, hp, hq, hs => by
    have hall : (List.range 8).all (fun k => decide ((2 : Nat) ^ 1076 ≤ mv (fi (2 * ((k + 1 : Nat) : Int) * (2 * ((k + 1 : Nat) : Int) + 1)))) && decide (fi (2 * ((k + 1 : Nat) : Int) * (2 * ((k + 1 : Nat) : Int) + 1)) % 9223372036854775808 < 9218868437227405312)) = true := by decide +kernel
    have h0 := List.all_eq_true.1 hall k (List.mem_range.2 (by omega))
    rw [Bool.and_eq_true, decide_eq_true_eq, decide_eq_true_eq] at h0
    have h1 := bd_mul (r := q + 12) hu hp (by omega) (by omega)
    have h2 := (bd_quo (r := q + 11) h1 h0.2 h0.1 (by omega) (by omega)).1
    have h3 := bd_sub (p := q + 11) (bd_c1.mono (by omega)) h2 (by omega)
    have := bd_serS hu k _ (q + 12) (by omega) h3 (by omega) (by omega)
    rw [show q + 12 * (k + 1) = q + 12 + 12 * k by omega]
    exact this
theorem fneg_bd {X p : Nat} (h : Bd X p) : Bd (fneg .f64 X) p := by
  have hi := fneg_is (is_bd h)
  have hs := neg64 h.1
  have h1 := h.1
  have h2 := h.2.1
  unfold Fin64 at h2
  have hf : fneg .f64 X = Op.negFloat .f64 X := by
    unfold fneg
    refine cn_of_not ?_
    rw [(isn_neg .f64 (by rw [w64]; exact h1)).1, isn64]
    exact decide_eq_false (by omega)
  rw [hf, hs]
  split
  · refine ⟨by omega, by unfold Fin64; omega, ?_⟩
    unfold mv
    rw [show (X - 9223372036854775808) % 9223372036854775808 = X % 9223372036854775808 by omega]
    exact h.2.2
  · refine ⟨by omega, by unfold Fin64; omega, ?_⟩
    unfold mv
    rw [show (X + 9223372036854775808) % 9223372036854775808 = X % 9223372036854775808 by omega]
    exact h.2.2
theorem sinF_bd {F : Nat} (h : Bd F 1075) : Bd (sinF F) 1190 := by
  have z : Bd (sinZ F) 1080 := bd_mul (f2_bd h) bd_turn (by omega) (by omega)
  have u := bd_mul (r := 1086) z z (by omega) (by omega)
  have s := bd_serS u 8 c1 1075 (by omega) (bd_c1.mono (by omega)) (by omega) (by omega)
  exact bd_mul z s (by omega) (by omega)
theorem sinW_bd {X : Nat} (h : Bd X 1126) : Bd (sinW X) 1190 := by
  unfold sinW
  split
  · exact fneg_bd (sinF_bd (frac_bd h))
  · exact sinF_bd (frac_bd h)

/-- numbers of turns that tell something -/
def Small (X : Nat) : Prop := Bd X 1126 ∧ mv X < 2 ^ 1126
theorem c52_val : svd 4841369599423283200 = 2 ^ 1126 := by decide +kernel
theorem c52_fin : Fin64 4841369599423283200 := by unfold Fin64; decide
theorem n52_val : svd 14064741636278059008 = -(2 ^ 1126) := by decide +kernel
theorem n52_fin : Fin64 14064741636278059008 := by unfold Fin64; decide
theorem p52 : ((2 : Int) ^ 1126) = ((2 ^ 1126 : Nat) : Int) := by norm_cast

theorem sub_self {X : Nat} (h : Fin64 X) : fop .sub .f64 X X = 0 ∨ fop .sub .f64 X X = 9223372036854775808 := by
  have hn := (near_sub h h).1
  rw [Int.sub_self] at hn
  obtain ⟨g1, g2⟩ := near_exact hn (r0 := 0) (by omega) (by decide +kernel)
  omega
theorem sub_self_ne {X : Nat} (h : Fin64 X) : fne .f64 (fop .sub .f64 X X) 0 = false := by
  rcases sub_self h with e | e <;> rw [e] <;> decide +kernel

theorem Small.ge {X : Nat} (h : Small X) : fge .f64 X 4841369599423283200 = false := by
  rw [fge_fin h.1.2.1 c52_fin, decide_eq_false_iff_not, c52_val, p52]
  have h1 := svd_abs X
  have := h.2
  generalize (2 : Nat) ^ 1126 = A at *
  omega
theorem Small.le {X : Nat} (h : Small X) : fle .f64 X 14064741636278059008 = false := by
  rw [Bool.eq_false_iff]; intro g
  have := ((fle_iff _ _ _).1 g).2.2
  rw [show FloatKind.f64.format = double from rfl, svd_eq, svd_eq, n52_val, p52] at this
  have h1 := svd_abs X
  have := h.2
  generalize (2 : Nat) ^ 1126 = A at *
  omega
theorem fabs_eq (X : Nat) : fabs X = X % 9223372036854775808 := by unfold fabs; rfl
theorem mv_fabs (X : Nat) : mv (fabs X) = mv X ∧ sg (fabs X) = false := by
  rw [fabs_eq]
  refine ⟨by unfold mv; rw [Nat.mod_mod], ?_⟩
  rw [sg_eq, Nat.div_eq_of_lt (Nat.mod_lt _ (by decide))]; rfl
theorem fin_fabs {X : Nat} (h : Fin64 X) : Fin64 (fabs X) := by unfold Fin64 at *; rw [fabs_eq, Nat.mod_mod]; exact h
theorem abs_ge {X : Nat} (h : Fin64 X) : fge .f64 (fabs X) 4841369599423283200 = decide (2 ^ 1126 ≤ mv X) := by
  rw [fge_fin (fin_fabs h) c52_fin, c52_val, p52, svd_pos (mv_fabs X).2, (mv_fabs X).1]
  exact decide_eq_decide.2 Int.ofNat_le
theorem large_ge {X : Nat} (h : Fin64 X) (hl : 2 ^ 1126 ≤ mv X) (hs : sg X = false) : fge .f64 X 4841369599423283200 = true := by
  rw [fge_fin h c52_fin, c52_val, p52, svd_pos hs]
  exact decide_eq_true (Int.ofNat_le.2 hl)
theorem large_lt {X : Nat} (h : Fin64 X) (hl : 2 ^ 1126 ≤ mv X) (hs : sg X = true) : fge .f64 X 4841369599423283200 = false ∧ fle .f64 X 14064741636278059008 = true := by
  have e : svd X = -(mv X : Int) := by rw [svd_of hs rfl]; rfl
  constructor
  · rw [fge_fin h c52_fin, c52_val, p52, e, decide_eq_false_iff_not]
    have : (0 : Nat) < 2 ^ 1126 := Nat.two_pow_pos _
    generalize (2 : Nat) ^ 1126 = A at *
    omega
  · rw [fle_iff, show FloatKind.f64.format = double from rfl, svd_eq, svd_eq, n52_val, p52, e]
    refine ⟨not_nan h, not_nan n52_fin, ?_⟩
    generalize (2 : Nat) ^ 1126 = A at *
    omega

/-- finite 32-bit numbers; the others -/
theorem fin32_bd {X : Nat} (hX : Can .f32 X) (h : fin32B X = true) : Bd (wid X) 1202 := by
  unfold fin32B at h
  rw [decide_eq_true_eq] at h
  have hn : isn .f32 X = false := by rw [isn32, decide_eq_false_iff_not]; omega
  obtain ⟨r0, g1, g2, g3, g4⟩ := wid_cases (can32_lt hX) hn
  obtain ⟨k1, k2⟩ := g3 h
  have hr : wid X % 9223372036854775808 = r0 := by rw [g2]; exact (word64_lt g1).2.1
  have hlt : wid X < 18446744073709551616 := by rw [g2]; exact (word64_lt g1).1
  refine ⟨hlt, by unfold Fin64; omega, ?_⟩
  have hmv : mv (wid X) = rv single (X % 2147483648) * 2 ^ 925 := by unfold mv; rw [hr, k2]
  rw [hmv]
  have h5 : rv single (X % 2147483648) ≤ rv single 2139095039 := rv_le single (by omega)
  have h6 : rv single 2139095039 ≤ 2 ^ 277 := by decide +kernel
  have h7 := Nat.mul_le_mul_right (2 ^ 925) (Nat.le_trans h5 h6)
  rw [← Nat.pow_add] at h7
  exact h7
theorem nfin32 {X : Nat} (hX : Can .f32 X) (h : fin32B X = false) : X = qn .f32 ∨ X = 2139095040 ∨ X = 4286578688 := by
  unfold fin32B at h
  rw [decide_eq_false_iff_not] at h
  by_cases hn : isn .f32 X = true
  · exact .inl (hX.nan hn)
  · have hlt := can32_lt hX
    rw [isn32, decide_eq_true_eq] at hn
    omega

/-- the sine of a 32-bit number of turns -/
def sinN (X : Nat) : Nat := if fin32B X then if 2 ^ 1126 ≤ mv (wid X) then 0 else nar (sinW (wid X)) else qn .f32
end Go.Fl
