/-
  PLAIN LAWS: the angle of a point. (No program here.)
-/
import Derived.Test.YtkcdccfajjhacaaSin
set_option exponentiation.threshold 5000
set_option linter.unusedVariables false
set_option linter.unusedSimpArgs false
namespace Go.Fl
open Go Ieee

def stepT (t : Nat) : Nat := fop .quo .f64 t (fop .add .f64 c1 (fsqrt (fop .add .f64 c1 (fop .mul .f64 t t))))
def stp : Nat → Nat → Nat
  | 0, t => t
  | j + 1, t => stp j (stepT t)
def serA (u : Nat) : Nat → Nat → Nat
  | 0, p => p
  | j + 1, p => serA u j (fop .sub .f64 (fop .quo .f64 c1 (fi (2 * ((j + 1 : Nat) : Int) - 1))) (fop .mul .f64 u p))
abbrev c8 : Nat := 4620693217682128896
def over (Y X : Nat) : Bool := fgt .f64 (fabs Y) (fabs X)
def angT (Y X : Nat) : Nat := if over Y X then fop .quo .f64 (fabs X) (fabs Y) else fop .quo .f64 (fabs Y) (fabs X)
def ang0 (t : Nat) : Nat := fop .quo .f64 (fop .mul .f64 c8 (fop .mul .f64 t (serA (fop .mul .f64 t t) 8 0))) cTurn
def ang1 (Y X : Nat) : Nat := if over Y X then fop .sub .f64 cQuarter (ang0 (stp 3 (angT Y X))) else ang0 (stp 3 (angT Y X))
def ang2 (Y X : Nat) : Nat := if flt .f64 X 0 then fop .sub .f64 cHalf (ang1 Y X) else ang1 Y X
def angW (Y X : Nat) : Nat := if flt .f64 Y 0 then fneg .f64 (ang2 Y X) else ang2 Y X

theorem stepT_bd {t p : Nat} (h : Bd t p) (hp : 1075 ≤ p) (hp' : p ≤ 1080) : Bd (stepT t) (p + 1) := by
  have hm := bd_mul (r := 2 * p - 1074) h h (by omega) (by omega)
  have hs : sg (fop .mul .f64 t t) = false := by rw [(near_mul h.2.1 h.2.1).2]; cases sg t <;> rfl
  have ha := bd_add (p := 2 * p - 1074) (bd_c1.mono (by omega)) hm (by omega)
  have hn := near_add bd_c1.2.1 hm.2.1
  have hpos : 0 < svd c1 + svd (fop .mul .f64 t t) := by
    rw [svd_pos hs, one_val]
    have : (0 : Int) < 2 ^ 1074 := by norm_cast
    omega
  have hq := bd_sqrt (r := p + 2) ha (hn.2 hpos) (by omega) (by omega)
  have hd := bd_add (p := p + 2) (bd_c1.mono (by omega)) hq.1 (by omega)
  have hlo : 2 ^ 1074 ≤ mv (fop .add .f64 c1 (fsqrt (fop .add .f64 c1 (fop .mul .f64 t t)))) := by
    refine (near_add bd_c1.2.1 hq.1.2.1).1.lo (by omega) ?_
    rw [svd_pos hq.2, one_val, Nat.mul_one]
    have e7 : ((2 : Int) ^ 1074) = ((2 ^ 1074 : Nat) : Int) := by norm_cast
    rw [e7]
    generalize (2 : Nat) ^ 1074 = a at *
    omega
  exact (bd_quo h hd.2.1 hlo (by omega) (by omega)).1
theorem stp_bd : ∀ (j t p : Nat), Bd t p → 1075 ≤ p → p + j ≤ 1080 → Bd (stp j t) (p + j)
  | 0, t, p, h, _, _ => h
  | j + 1, t, p, h, hp, hq => by
    have := stp_bd j (stepT t) (p + 1) (stepT_bd h hp (by omega)) (by omega) (by omega)
    rw [show p + (j + 1) = p + 1 + j by omega]
    exact this
theorem bd_serA {u : Nat} (hu : Bd u 1082) : ∀ (j p q : Nat), j ≤ 8 → Bd p q → 1075 ≤ q → q + 9 * j ≤ 1300 → Bd (serA u j p) (q + 9 * j)
  | 0, p, q, _, hp, _, _ => hp
  | j + 1, p, q, hj, hp, hq, hs => by
    have hall : (List.range 8).all (fun j => decide ((2 : Nat) ^ 1074 ≤ mv (fi (2 * ((j + 1 : Nat) : Int) - 1)))) = true := by decide +kernel
    have e1 := of_decide_eq_true (List.all_eq_true.1 hall j (List.mem_range.2 (by omega)))
    have e2 : Fin64 (fi (2 * ((j + 1 : Nat) : Int) - 1)) := (fi_bd (by omega) (by omega)).2.1
    have h1 := (bd_quo (r := 1075) bd_c1 e2 e1 (by omega) (by omega)).1
    have h2 := bd_mul (r := q + 8) hu hp (by omega) (by omega)
    have h3 := bd_sub (h1.mono (q := q + 8) (by omega)) h2 (by omega)
    have := bd_serA hu j _ (q + 9) (by omega) h3 (by omega) (by omega)
    rw [show q + 9 * (j + 1) = q + 9 + 9 * j by omega]
    exact this
theorem turn_lo : 2 ^ 1076 ≤ mv cTurn := by decide +kernel
theorem ang0_bd {t : Nat} (h : Bd t 1078) : Bd (ang0 t) 1153 := by
  have u := bd_mul (r := 1082) h h (by omega) (by omega)
  have z : Bd 0 1075 := ⟨by omega, zero_fin, by decide +kernel⟩
  have s := bd_serA u 8 0 1075 (by omega) z (by omega) (by omega)
  have m := bd_mul (r := 1151) h s (by omega) (by omega)
  have e8 : Bd c8 1077 := ⟨by decide, by unfold Fin64; decide, by decide +kernel⟩
  have m8 := bd_mul (r := 1154) e8 m (by omega) (by omega)
  exact (bd_quo m8 bd_turn.2.1 turn_lo (by omega) (by omega)).1
theorem angT_bd {Y X : Nat} (hY : Fin64 Y) (hX : Fin64 X) (hz : 0 < mv Y ∨ 0 < mv X) : Bd (angT Y X) 1075 := by
  have fy := fin_fabs hY
  have fx := fin_fabs hX
  have o : over Y X = decide (mv X < mv Y) := by
    unfold over
    rw [fgt_fin fy fx, svd_pos (mv_fabs X).2, svd_pos (mv_fabs Y).2, (mv_fabs X).1, (mv_fabs Y).1]
    exact decide_eq_decide.2 Int.ofNat_lt
  unfold angT
  rw [o]
  by_cases g : mv X < mv Y
  · rw [if_pos (decide_eq_true g)]
    refine (bd_quo' fx fy (by rw [(mv_fabs Y).1]; omega) ?_ (by omega)).1
    rw [(mv_fabs Y).1, (mv_fabs X).1, Nat.mul_comm]
    exact Nat.mul_le_mul_left _ (Nat.le_of_lt g)
  · rw [if_neg (by rw [decide_eq_false g]; decide)]
    refine (bd_quo' fy fx (by rw [(mv_fabs X).1]; omega) ?_ (by omega)).1
    rw [(mv_fabs Y).1, (mv_fabs X).1, Nat.mul_comm]
    exact Nat.mul_le_mul_left _ (by omega)
theorem bd_quarter : Bd cQuarter 1074 := ⟨by decide, by unfold Fin64; decide, by decide +kernel⟩
theorem angW_bd {Y X : Nat} (hY : Fin64 Y) (hX : Fin64 X) (hz : 0 < mv Y ∨ 0 < mv X) : Bd (angW Y X) 1155 := by
  have t := stp_bd 3 _ 1075 (angT_bd hY hX hz) (by omega) (by omega)
  have a0 := ang0_bd t
  have a1 : Bd (ang1 Y X) 1154 := by
    unfold ang1
    split
    · exact bd_sub (bd_quarter.mono (by omega)) a0 (by omega)
    · exact a0.mono (by omega)
  have a2 : Bd (ang2 Y X) 1155 := by
    unfold ang2
    split
    · exact bd_sub (bd_half.mono (by omega)) a1 (by omega)
    · exact a1.mono (by omega)
  unfold angW
  split
  · exact fneg_bd a2
  · exact a2

/-- nothing, in either width -/
theorem feq0_64 {X : Nat} (h : Fin64 X) : feq .f64 X 0 = decide (mv X = 0) := by
  rw [Bool.eq_iff_iff, decide_eq_true_eq, feq_iff, show FloatKind.f64.format = double from rfl, svd_eq, svd_eq, zero_val]
  have := svd_abs X
  simp [not_nan h, not_nan zero_fin]
  omega
theorem feq0_32 {X : Nat} (hX : Can .f32 X) (h : fin32B X = true) : feq .f32 X 0 = decide (mv (wid X) = 0) := by
  unfold fin32B at h
  rw [decide_eq_true_eq] at h
  have hn : isn .f32 X = false := by rw [isn32, decide_eq_false_iff_not]; omega
  obtain ⟨r0, g1, g2, g3, g4⟩ := wid_cases (can32_lt hX) hn
  obtain ⟨k1, k2⟩ := g3 h
  have hr : wid X % 9223372036854775808 = r0 := by rw [g2]; exact (word64_lt g1).2.1
  have hmv : mv (wid X) = rv single (X % 2147483648) * 2 ^ 925 := by unfold mv; rw [hr, k2]
  have e0 : sv FloatKind.f32.format 0 = 0 := by decide +kernel
  have hp : (0 : Nat) < 2 ^ 925 := Nat.two_pow_pos _
  rw [Bool.eq_iff_iff, decide_eq_true_eq, feq_iff, e0, hmv, Nat.mul_eq_zero]
  unfold sv
  rw [rg32]
  show _ ∧ _ ∧ (if ng FloatKind.f32.format X = true then -((rv single (X % 2147483648) : Nat) : Int) else ((rv single (X % 2147483648) : Nat) : Int)) = 0 ↔ _
  constructor
  · rintro ⟨_, _, g⟩
    split at g <;> omega
  · intro g
    refine ⟨hn, isn_nil _, ?_⟩
    rcases g with g | g
    · rw [g]; simp
    · omega
/-- the angle of a point of 32-bit numbers -/
def angN (Y X : Nat) : Nat := if fin32B Y && fin32B X then if mv (wid Y) = 0 ∧ mv (wid X) = 0 then 0 else nar (angW (wid Y) (wid X)) else qn .f32
end Go.Fl
