/-
  THE WALK's LAWS FOR FLOATS, MORE: the opposite; square roots, whole parts. (No program here.)
-/
import Derived.Test.YtianaalokclklaaDoorBnd
set_option linter.unusedVariables false
set_option linter.unusedSimpArgs false
namespace Go.Fl
open Go Ieee

/-- the opposite -/
def fneg (k : FloatKind) (X : Nat) : Nat := cn k (Op.negFloat k X)

theorem negFloat_eq (k : FloatKind) (X : Nat) : Op.negFloat k X = X ^^^ k.format.signWeight := rfl

theorem tb1 (i : Nat) : Nat.testBit 1 i = decide (i = 0) := by
  cases i with
  | zero => rfl
  | succ i => simp [Nat.testBit_succ]

theorem xor_pow (X n : Nat) : X ^^^ 2 ^ n = if X / 2 ^ n % 2 = 1 then X - 2 ^ n else X + 2 ^ n := by
  have hp : 0 < 2 ^ n := Nat.two_pow_pos n
  have h1 := Nat.div_add_mod X (2 ^ n)
  have hm : (X ^^^ 2 ^ n) % 2 ^ n = X % 2 ^ n := by
    apply Nat.eq_of_testBit_eq
    intro i
    simp only [Nat.testBit_mod_two_pow, Nat.testBit_xor, Nat.testBit_two_pow]
    by_cases h : i < n
    · have : ¬ n = i := by omega
      simp [h, this]
    · simp [h]
  have hd : (X ^^^ 2 ^ n) / 2 ^ n = X / 2 ^ n ^^^ 1 := by
    apply Nat.eq_of_testBit_eq
    intro i
    rw [← Nat.shiftRight_eq_div_pow, ← Nat.shiftRight_eq_div_pow]
    simp only [Nat.testBit_shiftRight, Nat.testBit_xor, Nat.testBit_two_pow]
    congr 1
    rw [tb1]
    by_cases h : i = 0
    · subst h; simp
    · have : ¬ n = n + i := by omega
      simp [h, this]
  have h2 := Nat.div_add_mod (X ^^^ 2 ^ n) (2 ^ n)
  rw [hm, hd] at h2
  have hx : (X / 2 ^ n) ^^^ 1 = if X / 2 ^ n % 2 = 1 then X / 2 ^ n - 1 else X / 2 ^ n + 1 := by
    generalize X / 2 ^ n = q
    apply Nat.eq_of_testBit_eq
    intro i
    cases i with
    | zero =>
      split
      · rename_i h
        rw [Nat.testBit_xor]
        simp only [Nat.testBit_zero]
        have : (q - 1) % 2 = 0 := by omega
        rw [this, h]; rfl
      · rename_i h
        rw [Nat.testBit_xor]
        simp only [Nat.testBit_zero]
        have h0 : q % 2 = 0 := by omega
        have : (q + 1) % 2 = 1 := by omega
        rw [this, h0]; rfl
    | succ i =>
      rw [Nat.testBit_xor, tb1]
      simp only [Nat.testBit_succ]
      have e : (if q % 2 = 1 then q - 1 else q + 1) / 2 = q / 2 := by split <;> omega
      rw [e]; simp
  rw [hx] at h2
  split
  · rename_i h
    rw [if_pos h] at h2
    have hq : 1 ≤ X / 2 ^ n := Nat.pos_of_ne_zero (by intro e; rw [e] at h; simp at h)
    have : 2 ^ n * (X / 2 ^ n - 1) = 2 ^ n * (X / 2 ^ n) - 2 ^ n := by rw [Nat.mul_sub, Nat.mul_one]
    have : 2 ^ n * 1 ≤ 2 ^ n * (X / 2 ^ n) := Nat.mul_le_mul_left _ hq
    omega
  · rename_i h
    rw [if_neg h, Nat.mul_add, Nat.mul_one] at h2
    omega

theorem neg64 {X : Nat} (h : X < 18446744073709551616) : Op.negFloat .f64 X = if 9223372036854775808 ≤ X then X - 9223372036854775808 else X + 9223372036854775808 := by
  have e := xor_pow X 63
  rw [show (2 : Nat) ^ 63 = 9223372036854775808 from rfl] at e
  have : Op.negFloat .f64 X = X ^^^ 9223372036854775808 := by rw [negFloat_eq]; show X ^^^ double.signWeight = _; rw [sw64]
  rw [this, e]
  by_cases g : 9223372036854775808 ≤ X
  · rw [if_pos g, if_pos (by omega)]
  · rw [if_neg g, if_neg (by omega)]

theorem neg32 {X : Nat} (h : X < 4294967296) : Op.negFloat .f32 X = if 2147483648 ≤ X then X - 2147483648 else X + 2147483648 := by
  have e := xor_pow X 31
  rw [show (2 : Nat) ^ 31 = 2147483648 from rfl] at e
  have : Op.negFloat .f32 X = X ^^^ 2147483648 := by rw [negFloat_eq]; show X ^^^ Ieee.single.signWeight = _; rw [sw32]
  rw [this, e]
  by_cases g : 2147483648 ≤ X
  · rw [if_pos g, if_pos (by omega)]
  · rw [if_neg g, if_neg (by omega)]

theorem isn_neg (k : FloatKind) {X : Nat} (h : X < 2 ^ k.format.width) : isn k (Op.negFloat k X) = isn k X ∧ Op.negFloat k X < 2 ^ k.format.width := by
  cases k
  · rw [w32] at *
    rw [neg32 h, isn32, isn32]
    split
    · exact ⟨by rw [show (X - 2147483648) % 2147483648 = X % 2147483648 by omega], by omega⟩
    · exact ⟨by rw [show (X + 2147483648) % 2147483648 = X % 2147483648 by omega], by omega⟩
  · rw [w64] at *
    rw [neg64 h, isn64, isn64]
    split
    · exact ⟨by rw [show (X - 9223372036854775808) % 9223372036854775808 = X % 9223372036854775808 by omega], by omega⟩
    · exact ⟨by rw [show (X + 9223372036854775808) % 9223372036854775808 = X % 9223372036854775808 by omega], by omega⟩

theorem fneg_is {k : FloatKind} {x X : Nat} (h : Is k x X) : Is k (Op.negFloat k x) (fneg k X) := by
  obtain ⟨h1, h2⟩ := isn_neg k h.1
  refine ⟨h2, ?_⟩
  unfold fneg
  by_cases hn : isn k x = true
  · have hX : X = qn k := by rw [← h.2]; exact cn_of hn
    have h3 : isn k (Op.negFloat k X) = true := by rw [(isn_neg k (by rw [hX]; exact qn_lt k)).1, hX]; exact isn_qn k
    rw [cn_of (by rw [h1]; exact hn), cn_of h3]
  · have hX : x = X := by rw [← h.2]; exact (cn_of_not (by simpa using hn)).symm
    rw [hX]

theorem fsqrt_can (X : Nat) : Can .f64 (fsqrt X) := by
  unfold fsqrt
  cases h : double.sqrt X with
  | none => exact ⟨by rw [Option.getD_none]; exact qn_lt _, by rw [Option.getD_none, cn_of (isn_qn _)]⟩
  | some r => exact ⟨double.sqrt_lt h, cn_of_not (map_write_not_nan (f := double) (fun d hd => root_not_nan hd) h)⟩

section
variable {P : Program} {ops : Array Oper} {rest : List Oper} {a : Act} {Q : Exit → Act → World → Prop} {w : World} {dst : Option Tmp} {ty : TypeId} {pos : String} {after : Array Edge} {guard : Option (Nat × Bool)} {x y : Operand} {t t' : TypeId}

theorem wpList_fneg {k : FloatKind} {bx X : Nat}
    (hw : Region.wanted ⟨dst, .unOp .neg t x, ty, pos, after, guard⟩ (yielded ops a.tmps) = true) (ex : a.eval x = .float k bx) (hx : Is k bx X)
    (hK : ∀ r, Is k r (fneg k X) → wpList P ops Q rest (a.put dst (.float k r)) w) :
    wpList P ops Q (⟨dst, .unOp .neg t x, ty, pos, after, guard⟩ :: rest) a w :=
  wpList_run (n := 0) hw (by simp [execOp, ex, Op.unary, World.drewN_zero]) (hK _ (fneg_is hx))

theorem run_sqrt (x : Nat) (w : World) : ∃ r n, (Extern.MathSqrt.sqrt #[.float .f64 x]).run P w = .ok (.float .f64 r) (w.drewN n) ∧ Is .f64 r (fsqrt (cn .f64 x)) := by
  have hcn : double.sqrt (cn .f64 x) = double.sqrt x := by
    by_cases hn : isn .f64 x = true
    · have h : ∀ y, isn .f64 y = true → double.sqrt y = none := by
        intro y hy
        obtain ⟨s, f, hr⟩ := isn_read hy
        have hr' : double.read y = .nan s f := hr
        simp [Format.sqrt, hr', Datum.root]
      rw [h _ hn, h _ (by rw [isn_cn]; exact hn)]
    · rw [cn_of_not (by simpa using hn)]
  unfold fsqrt
  rw [hcn]
  have e : Extern.MathSqrt.sqrt #[.float .f64 x] = (match double.sqrt x with | some r => pure (.float .f64 r) | none => do pure (.float .f64 (← choose (.nanBits .f64 x x)))) := rfl
  rw [e]
  cases h : double.sqrt x with
  | some r =>
    refine ⟨r, 0, rfl, double.sqrt_lt h, ?_⟩
    rw [Option.getD_some]
    exact cn_of_not (map_write_not_nan (f := double) (fun d hd => root_not_nan hd) h)
  | none =>
    have hc := cut_nan .f64 (.nanBits .f64 x x) (.inl ⟨x, x, rfl⟩) (w.tape w.drawn (.nanBits .f64 x x))
    refine ⟨_, 1, ?_, hc.2, ?_⟩
    · simp [choose, Sem.run, Question.forced]
      rfl
    · rw [Option.getD_none]; exact cn_of hc.1

/-- a call of the body-less 'math.sqrt' -/
theorem wpList_sqrt {f : FuncId} {ats : Array TypeId} {fn : Func} (hf : P.funcs[f]? = some fn) (h1 : (fn.name == "runtime.NumGoroutine") = false)
    (h2 : fn.body.isNone = true) (h3 : Extern.findNext fn = none) (h4 : Extern.find fn = some Extern.MathSqrt.sqrt) {bx X : Nat}
    (hw : Region.wanted ⟨dst, .call { callee := .value (.func f), args := #[x], argTypes := ats }, ty, pos, after, guard⟩ (yielded ops a.tmps) = true) (ex : a.eval x = .float .f64 bx) (hx : Is .f64 bx X)
    (hK : ∀ r n, Is .f64 r (fsqrt X) → wpList P ops Q rest (a.put dst (.float .f64 r)) (w.drewN n)) :
    wpList P ops Q (⟨dst, .call { callee := .value (.func f), args := #[x], argTypes := ats }, ty, pos, after, guard⟩ :: rest) a w := by
  obtain ⟨r, n, hrun, hr⟩ := run_sqrt (P := P) bx w
  rw [hx.2] at hr
  refine wpList_run (v := .float .f64 r) (n := n) hw ?_ (hK r n hr)
  rw [execOp_call_go]
  have e : (#[] ++ Array.map a.eval #[x] ++ #[] : Array Value) = #[.float .f64 bx] := by simp [ex]
  rw [e, run_callFunc_extern hf h1 h2 h3 h4, hrun]
  rfl
end

attribute [irreducible] fneg

end Go.Fl
