/-
  WHOLE NUMBERS OF FLOATS: floor, trunc, and the conversion to a 64-bit integer: where the number is not too great. (No program here.)
-/
import Derived.Test.YtkcdccfajjhacaaFx
import GoSem.Extern.MathFloor
set_option exponentiation.threshold 5000
set_option linter.unusedVariables false
set_option linter.unusedSimpArgs false
namespace Go.Fl
open Go Ieee

/-- made whole -/
def fcut (way : Toward) (X : Nat) : Nat := double.write ((double.read X).integral way)
/-- as an integer, cut towards zero -/
def toI (X : Nat) : Int := ((double.read X).toInt .zero).getD 0

theorem cut_low (way : Toward) (s : Bool) (n d : Nat) : way.cut s n d ≤ n / 2 ^ d + 1 ∧ Toward.zero.cut s n d = n / 2 ^ d := by
  have key : n / (1 <<< min d (n.log2 + 2)) = n / 2 ^ d := by
    rw [Nat.shiftLeft_eq, Nat.one_mul]
    rcases Nat.le_total d (n.log2 + 2) with g | g
    · rw [Nat.min_eq_left g]
    · rw [Nat.min_eq_right g]
      have h1 : n < 2 ^ (n.log2 + 2) := by
        rcases Nat.eq_zero_or_pos n with g0 | g0
        · rw [g0]; exact Nat.two_pow_pos _
        · exact Nat.lt_of_lt_of_le (Nat.lt_log2_self) (two_pow_le (by omega))
      rw [Nat.div_eq_of_lt h1, Nat.div_eq_of_lt (Nat.lt_of_lt_of_le h1 (two_pow_le g))]
  constructor
  · unfold Toward.cut
    simp only [key]
    refine Nat.add_le_add_left ?_ _
    exact Bool.toNat_le _
  · unfold Toward.cut
    simp only [key]
    rfl

/-- the whole part's magnitude -/
theorem cut_mag {m : Nat} {i : Int} {V : Nat} (hi : -1074 ≤ i) (hm : m * 2 ^ (i - -1074).toNat = V) : (m <<< i.toNat) / 2 ^ (-i).toNat * 2 ^ 1074 ≤ V := by
  rw [← hm, Nat.shiftLeft_eq]
  rcases Int.le_total 0 i with g | g
  · have e1 : (-i).toNat = 0 := by omega
    have e2 : (i - -1074).toNat = i.toNat + 1074 := by omega
    rw [e1, e2, Nat.pow_zero, Nat.div_one, Nat.pow_add, Nat.mul_assoc]
    exact Nat.le_refl _
  · have e1 : i.toNat = 0 := by omega
    have e2 : 1074 = (i - -1074).toNat + (-i).toNat := by omega
    rw [e1, Nat.pow_zero, Nat.mul_one]
    calc m / 2 ^ (-i).toNat * 2 ^ 1074 = m / 2 ^ (-i).toNat * 2 ^ ((i - -1074).toNat + (-i).toNat) := by rw [← e2]
      _ = (m / 2 ^ (-i).toNat * 2 ^ (-i).toNat) * 2 ^ (i - -1074).toNat := by rw [Nat.pow_add]; ac_rfl
      _ ≤ m * 2 ^ (i - -1074).toNat := Nat.mul_le_mul_right _ (Nat.div_mul_le_self _ _)

theorem fcut_bd {X p : Nat} (way : Toward) (h : Bd X p) (hp : 1074 ≤ p) (hp' : p ≤ 2000) : Bd (fcut way X) (p + 1) := by
  obtain ⟨m, i, h1, h2, h3, _⟩ := h.2.1.read
  unfold fcut
  rw [h1]
  show Bd (double.nearest _ _ _) _
  refine (near_nearest (sg X) (way.cut (sg X) (m <<< i.toNat) (-i).toNat) 0 (way.cut (sg X) (m <<< i.toNat) (-i).toNat * 2 ^ 1074) 1 (by omega) (by
    rw [show ((0 : Int) - -1074).toNat = 1074 by omega, show ((-1074 : Int) - 0).toNat = 0 by omega, Nat.pow_zero])).1.bd (by omega) ?_
  have a := (cut_low way (sg X) (m <<< i.toNat) (-i).toNat).1
  have b := cut_mag h2 h3
  have c := Nat.mul_le_mul_right (2 ^ 1074) a
  rw [Nat.add_mul, Nat.one_mul] at c
  have d := h.2.2
  have e := two_pow_le (a := 1074) (b := p) hp
  rw [Nat.mul_one]
  refine Nat.le_trans c ?_
  rw [show (2 : Nat) ^ (p + 1) = 2 ^ p * 2 from Nat.pow_succ _ _, Nat.mul_two]
  exact Nat.add_le_add (Nat.le_trans b d) e

theorem is_bd {X p : Nat} (h : Bd X p) : Is .f64 X X := by
  refine ⟨by rw [w64]; exact h.1, cn_of_not ?_⟩
  have := h.2.1
  unfold Fin64 at this
  rw [isn64]; exact decide_eq_false (by omega)

theorem is_same {x X p : Nat} (h : Is .f64 x X) (hb : Bd X p) : x = X := by
  by_cases hn : isn .f64 x = true
  · have h1 : X = qn .f64 := by rw [← h.2]; exact cn_of hn
    have h2 := hb.2.1
    rw [h1] at h2
    exact absurd h2 (by unfold Fin64; decide +kernel)
  · rw [← h.2]; exact (cn_of_not (by simpa using hn)).symm

theorem toI_ok {X p : Nat} (h : Bd X p) (hp : p ≤ 1136) : floatToIntVal .f64 X .i64 = some (toI X) ∧ (toI X).natAbs * 2 ^ 1074 ≤ mv X := by
  obtain ⟨m, i, h1, h2, h3, _⟩ := h.2.1.read
  have hc := (cut_low .zero (sg X) (m <<< i.toNat) (-i).toNat).2
  have b := cut_mag h2 h3
  rw [← hc] at b
  have e : (double.read X).toInt .zero = some (signed (sg X) (Toward.zero.cut (sg X) (m <<< i.toNat) (-i).toNat) 0) := by rw [h1]; rfl
  generalize Toward.zero.cut (sg X) (m <<< i.toNat) (-i).toNat = c at *
  have hc2 : c ≤ 2 ^ 62 := by
    have d := Nat.le_trans b (Nat.le_trans h.2.2 (two_pow_le hp))
    rw [show (1136 : Nat) = 62 + 1074 by omega, Nat.pow_add] at d
    exact Nat.le_of_mul_le_mul_right d (Nat.two_pow_pos _)
  rw [show (2 : Nat) ^ 62 = 4611686018427387904 by decide] at hc2
  have hs : (signed (sg X) c 0).natAbs = c := by unfold signed; rw [Nat.shiftLeft_zero]; split <;> omega
  have hi : toI X = signed (sg X) c 0 := by unfold toI; rw [e]; rfl
  constructor
  · unfold floatToIntVal
    show (match (double.read X).toInt .zero with | some n => _ | none => _) = _
    rw [e, hi]
    have k1 : IntKind.i64.min = -9223372036854775808 := by decide
    have k2 : IntKind.i64.max = 9223372036854775807 := by decide
    simp only [k1, k2]
    rw [if_pos (by omega)]
  · rw [hi, hs]; exact b

section
variable {P : Program} {ops : Array Oper} {rest : List Oper} {a : Act} {Q : Exit → Act → World → Prop} {w : World} {dst : Option Tmp} {ty : TypeId} {pos : String} {after : Array Edge} {guard : Option (Nat × Bool)} {x y : Operand} {t t' : TypeId}

theorem run_cut (nm : String) (way : Toward) {X p : Nat} (h : Bd X p) (w : World) : (Extern.MathFloor.toIntegral nm way #[.float .f64 X]).run P w = .ok (.float .f64 (fcut way X)) w := by
  obtain ⟨m, i, h1, h2, h3, _⟩ := h.2.1.read
  have hr : FloatKind.f64.decode X = .number (sg X) m i := h1
  unfold fcut
  rw [h1]
  have e : Extern.MathFloor.toIntegral nm way #[.float .f64 X] = (match FloatKind.f64.decode X with
    | .nan s t =>
      if FloatKind.f64.format.quiet t = t then pure (.float .f64 X) else do
      let kept ← choose (.extern "math.Floor,Ceil,Trunc,RoundToEven.signallingNaN kept" 2)
      pure (.float .f64 (if kept == 1 then X else FloatKind.f64.encode (.nan s (FloatKind.f64.format.quiet t))))
    | d => pure (.float .f64 (FloatKind.f64.encode (d.integral way)))) := rfl
  rw [e, hr]
  rfl

/-- a call of the body-less 'math.archFloor' or 'math.archTrunc' -/
theorem wpList_cut (nm : String) (way : Toward) {f : FuncId} {ats : Array TypeId} {fn : Func} (hf : P.funcs[f]? = some fn) (h1 : (fn.name == "runtime.NumGoroutine") = false)
    (h2 : fn.body.isNone = true) (h3 : Extern.findNext fn = none) (h4 : Extern.find fn = some (Extern.MathFloor.toIntegral nm way)) {bx X p : Nat}
    (hw : Region.wanted ⟨dst, .call { callee := .value (.func f), args := #[x], argTypes := ats }, ty, pos, after, guard⟩ (yielded ops a.tmps) = true) (ex : a.eval x = .float .f64 bx) (hx : Is .f64 bx X) (hb : Bd X p)
    (hK : wpList P ops Q rest (a.put dst (.float .f64 (fcut way X))) w) :
    wpList P ops Q (⟨dst, .call { callee := .value (.func f), args := #[x], argTypes := ats }, ty, pos, after, guard⟩ :: rest) a w := by
  have hs := is_same hx hb
  subst hs
  refine wpList_run (v := .float .f64 (fcut way bx)) (n := 0) hw ?_ (by rw [World.drewN_zero]; exact hK)
  rw [execOp_call_go]
  have e : (#[] ++ Array.map a.eval #[x] ++ #[] : Array Value) = #[.float .f64 bx] := by simp [ex]
  rw [e, run_callFunc_extern hf h1 h2 h3 h4, run_cut nm way hb, World.drewN_zero]
  rfl

/-- a conversion to a 64-bit integer -/
theorem wpList_toint {src d : TypeId} {us : TypeDesc} (hs : P.underlying src = some us) (hd : P.underlying d = some (.int .i64)) {bx X p : Nat}
    (hw : Region.wanted ⟨dst, .convert src d x, ty, pos, after, guard⟩ (yielded ops a.tmps) = true) (ex : a.eval x = .float .f64 bx) (hx : Is .f64 bx X) (hb : Bd X p) (hp : p ≤ 1136)
    (hK : wpList P ops Q rest (a.put dst (.int .i64 (toI X))) w) :
    wpList P ops Q (⟨dst, .convert src d x, ty, pos, after, guard⟩ :: rest) a w := by
  have h1 := is_same hx hb
  subst h1
  refine wpList_run (v := .int .i64 (toI bx)) (n := 0) hw ?_ (by rw [World.drewN_zero]; exact hK)
  have := run_convert_float_int (P := P) w src d .f64 .i64 bx (toI bx) (by rw [hs]; rfl) hd (toI_ok hb hp).1
  simp [execOp, ex, this, World.drewN_zero]
end
end Go.Fl
