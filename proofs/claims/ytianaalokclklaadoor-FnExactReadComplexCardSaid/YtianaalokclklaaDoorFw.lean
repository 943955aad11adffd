/-
  THE WALK's LAWS FOR FLOATS: at an operation on floats the walk goes on with SOME word whose canonical word is told. (No program here.)
-/
import Derived.Test.YtianaalokclklaaDoorFl
import Derived.Test.YtianaalokclklaaDoorVal
set_option linter.unusedVariables false
set_option linter.unusedSimpArgs false
namespace Go.Fl
open Go Ieee

/-! ### exactness; widening -/
theorem nearest_exact (f : Format) (neg : Bool) {mag : Nat} {place : Int} {r0 : Nat} (hr : r0 ≤ f.infRung)
    (h : mag * 2 ^ (place - f.leastPlace).toNat = rv f r0 * 2 ^ (f.leastPlace - place).toNat) : f.nearest neg mag place = f.word neg r0 := by
  by_cases hm : mag = 0
  · subst hm
    have h0 : rv f r0 * 2 ^ (f.leastPlace - place).toNat = 0 := by omega
    have hp : 0 < 2 ^ (f.leastPlace - place).toNat := Nat.two_pow_pos _
    have h1 : rv f r0 = 0 := by
      rcases Nat.mul_eq_zero.1 h0 with g | g
      · exact g
      · omega
    have h2 : r0 ≤ 0 := le_of_rv_le f (by rw [h1]; exact Nat.zero_le _)
    have h3 : r0 = 0 := by omega
    subst h3
    unfold Format.nearest
    simp
  · obtain ⟨r, h1, h2, h3⟩ := nearest_between f neg mag place (by omega)
    obtain ⟨h4, h5⟩ := h3 r0 hr
    have : r = r0 := Nat.le_antisymm (h4 (by omega)) (h5 (by omega))
    rw [h2, this]

theorem read_fin (f : Format) (neg : Bool) {r : Nat} (h : r < f.infRung) :
    ∃ m e, f.read (f.word neg r) = .number neg m e ∧ f.leastPlace ≤ e ∧ m * 2 ^ (e - f.leastPlace).toNat = rv f r ∧ m < 2 * f.binade := by
  have hb : 0 < f.binade := Nat.two_pow_pos _
  rw [read_word f neg (Nat.lt_trans h f.infRung_lt)]
  by_cases h1 : r < f.binade
  · rw [if_pos h1]
    exact ⟨r, _, rfl, Int.le_refl _, by simp [rv, h1], by omega⟩
  · rw [if_neg h1, if_pos h]
    refine ⟨_, _, rfl, by omega, ?_, ?_⟩
    · unfold rv
      rw [if_neg h1]
      congr 2
      omega
    · have := Nat.mod_lt r hb; omega

theorem exists_rung (f : Format) : ∀ (q n : Nat), n < 2 * f.binade → ∃ r, rv f r = n * 2 ^ q ∧ r < (q + 2) * f.binade
  | 0, n, h => ⟨n, by have := rv_of_parts f (q := 0) h (by omega); simpa using this, by rw [Nat.zero_add]; omega⟩
  | q + 1, n, h => by
    rcases Nat.lt_or_ge n f.binade with g | g
    · obtain ⟨r, h1, h2⟩ := exists_rung f q (2 * n) (by omega)
      refine ⟨r, ?_, ?_⟩
      · rw [h1, Nat.pow_succ]; ac_rfl
      · refine Nat.lt_of_lt_of_le h2 (Nat.mul_le_mul_right _ (by omega))
    · refine ⟨(q + 1) * f.binade + n, rv_of_parts f h (fun _ => g), ?_⟩
      rw [show q + 1 + 2 = (q + 1) + 2 from rfl, Nat.add_mul (q + 1) 2]
      omega

theorem word_parts (f : Format) {X : Nat} (h : X < 2 ^ f.width) : X = f.word (X / f.signWeight % 2 == 1) (X % f.signWeight) := by
  have hs := signWeight_pos f
  have two : 2 ^ f.width = 2 * f.signWeight := by
    unfold Format.width Format.signWeight
    rw [Nat.add_assoc, Nat.add_comm 1, Nat.pow_succ, Nat.mul_comm]
  have h1 := Nat.div_add_mod X f.signWeight
  have h2 : X / f.signWeight < 2 := by rw [Nat.div_lt_iff_lt_mul hs]; omega
  unfold Format.word
  rcases (show X / f.signWeight = 0 ∨ X / f.signWeight = 1 from by generalize X / f.signWeight = d at h2; omega) with g | g
  · rw [g] at h1
    have e : (X / f.signWeight % 2 == 1) = false := by rw [g]; rfl
    rw [e, if_neg (by decide)]
    omega
  · rw [g] at h1
    have e : (X / f.signWeight % 2 == 1) = true := by rw [g]; rfl
    rw [e, if_pos rfl]
    omega

theorem inf32 : Ieee.single.infRung = 2139095040 := by decide +kernel
theorem inf64 : Ieee.double.infRung = 9218868437227405312 := by decide +kernel
theorem bin32 : Ieee.single.binade = 8388608 := by decide +kernel
theorem bin64 : Ieee.double.binade = 4503599627370496 := by decide +kernel
theorem sw32 : Ieee.single.signWeight = 2147483648 := by decide +kernel
theorem sw64 : Ieee.double.signWeight = 9223372036854775808 := by decide +kernel
theorem lp32 : Ieee.single.leastPlace = -149 := by decide +kernel
theorem lp64 : Ieee.double.leastPlace = -1074 := by decide +kernel

theorem exists_dec (r : Nat) (h : r < 2139095040) : ∃ m e, rv Ieee.single r = m * 2 ^ e ∧ m < 16777216 ∧ e ≤ 254 := by
  obtain ⟨n, q, h1, h2, _, h3⟩ := rv_parts Ieee.single r
  rw [bin32] at h2 h3
  exact ⟨n, q, h1, by omega, by omega⟩

/-- a 32-bit number, as a 64-bit one: the same number -/
theorem widen_fin (neg : Bool) {r : Nat} (h : r < 2139095040) :
    ∃ r0, r0 < 9218868437227405312 ∧ rv Ieee.double r0 = rv Ieee.single r * 2 ^ 925 ∧ floatToFloatBits .f32 (Ieee.single.word neg r) .f64 = some (Ieee.double.word neg r0) := by
  obtain ⟨m, e, h1, h2, h3⟩ := exists_dec r h
  obtain ⟨r0, g1, g2⟩ := exists_rung Ieee.double (e + 925) m (by rw [bin64]; omega)
  have g3 : r0 < (e + 925 + 2) * 4503599627370496 := bin64 ▸ g2
  have hr0 : r0 < 9218868437227405312 := Nat.lt_of_lt_of_le g3 (Nat.le_trans (Nat.mul_le_mul_right _ (show e + 925 + 2 ≤ 1181 by omega)) (by decide))
  have hv : rv Ieee.double r0 = rv Ieee.single r * 2 ^ 925 := by rw [g1, h1, Nat.pow_add, Nat.mul_assoc]
  refine ⟨r0, hr0, hv, ?_⟩
  obtain ⟨mm, ee, hread, hle, hval, _⟩ := read_fin Ieee.single neg (r := r) (by rw [inf32]; exact h)
  have henc : FloatKind.encode .f64 (.number neg mm ee) = Ieee.double.word neg r0 := by
    show Ieee.double.nearest neg mm ee = _
    refine nearest_exact _ _ (by rw [inf64]; omega) ?_
    rw [lp32] at hle hval
    rw [lp64, hv, ← hval]
    have e1 : ((-1074 : Int) - ee).toNat = 0 := by omega
    have e2 : (ee - (-1074 : Int)).toNat = (ee - (-149 : Int)).toNat + 925 := by omega
    rw [e1, e2, Nat.pow_add]
    simp only [Nat.pow_zero, Nat.mul_one, Nat.mul_assoc]
  obtain ⟨m2, e2, hread2, _, _, _⟩ := read_fin Ieee.double neg (r := r0) (by rw [inf64]; exact hr0)
  unfold floatToFloatBits
  rw [if_neg (by decide)]
  have hd : FloatKind.f32.decode (Ieee.single.word neg r) = .number neg mm ee := hread
  simp only [hd, henc]
  have hd2 : FloatKind.f64.decode (Ieee.double.word neg r0) = .number neg m2 e2 := hread2
  rw [hd2]
  rfl


/-! ### conversions on canonical words -/
def wid (X : Nat) : Nat := (floatToFloatBits .f32 X .f64).getD (qn .f64)
def nar (X : Nat) : Nat := (floatToFloatBits .f64 X .f32).getD (qn .f32)
/-- narrowing is told by the model: a not-a-number, an infinity, or a number that is not too great -/
def NoOv (X : Nat) : Prop := isn .f64 X = true ∨ (floatToFloatBits .f64 X .f32).isSome = true

def feq (k : FloatKind) (X Y : Nat) : Bool := k.format.order X Y == some .eq
def fne (k : FloatKind) (X Y : Nat) : Bool := k.format.order X Y != some .eq
def flt (k : FloatKind) (X Y : Nat) : Bool := k.format.order X Y == some .lt
def fle (k : FloatKind) (X Y : Nat) : Bool := k.format.order X Y == some .lt || k.format.order X Y == some .eq
def fgt (k : FloatKind) (X Y : Nat) : Bool := k.format.order X Y == some .gt
def fge (k : FloatKind) (X Y : Nat) : Bool := k.format.order X Y == some .gt || k.format.order X Y == some .eq

theorem conv_nan {s d : FloatKind} (hsd : s ≠ d) {x : Nat} (h : isn s x = true) : floatToFloatBits s x d = none := by
  obtain ⟨g, f, hr⟩ := isn_read h
  unfold floatToFloatBits
  rw [if_neg hsd]
  have : s.decode x = .nan g f := hr
  rw [this]

theorem conv_not_nan {s d : FloatKind} (hsd : s ≠ d) {x r : Nat} (h : floatToFloatBits s x d = some r) : isn d r = false ∧ r < 2 ^ d.format.width := by
  unfold floatToFloatBits at h
  rw [if_neg hsd] at h
  split at h
  · cases h
  · cases h; exact ⟨write_not_nan d.format rfl, d.format.write_lt _⟩
  · split at h
    · cases h
    · cases h; exact ⟨write_not_nan d.format rfl, d.format.write_lt _⟩

section
variable {P : Program}

theorem run_conv (w : World) (src dst : TypeId) (s d : FloatKind) (hsd : s ≠ d) {us : TypeDesc} (hs : P.underlying src = some us) (hd : P.underlying dst = some (.float d)) (x : Nat)
    (hok : isn s x = true ∨ (floatToFloatBits s x d).isSome = true) :
    ∃ r n, (convert src dst (.float s x)).run P w = .ok (.float d r) (w.drewN n) ∧ Is d r ((floatToFloatBits s (cn s x) d).getD (qn d)) := by
  by_cases hn : isn s x = true
  · have h1 : floatToFloatBits s (cn s x) d = none := conv_nan hsd (by rw [isn_cn]; exact hn)
    rw [h1]
    have hc := cut_nan d (.nanConv d x) (.inr ⟨x, rfl⟩) (w.tape w.drawn (.nanConv d x))
    refine ⟨_, 1, ?_, hc.2, ?_⟩
    · obtain ⟨g, f, hr⟩ := isn_read hn
      have hr' : s.decode x = .nan g f := hr
      cases us <;> simp [convert, run_underlying hs, run_underlying hd, Conv.floatToFloat, hsd, hr', choose, Sem.run, Question.forced] <;> rfl
    · rw [Option.getD_none]; exact cn_of hc.1
  · rw [cn_of_not (by simpa using hn)]
    obtain ⟨r, hr⟩ := Option.isSome_iff_exists.1 (hok.resolve_left hn)
    refine ⟨r, 0, ?_, ?_⟩
    · rw [run_convert_float_float w src dst s d x r (by rw [hs]; rfl) hd hr]; rfl
    · rw [hr, Option.getD_some]
      obtain ⟨h1, h2⟩ := conv_not_nan hsd hr
      exact ⟨h2, cn_of_not h1⟩

/-- no 32-bit number is too great for 64 bits -/
theorem widen_ok {x : Nat} (hx : x < 2 ^ FloatKind.f32.format.width) : isn .f32 x = true ∨ (floatToFloatBits .f32 x .f64).isSome = true := by
  have hw := word_parts Ieee.single hx
  generalize hneg : (x / Ieee.single.signWeight % 2 == 1) = neg at hw
  generalize hrg : x % Ieee.single.signWeight = r at hw
  have hlt : r < Ieee.single.signWeight := by rw [← hrg]; exact Nat.mod_lt _ (signWeight_pos _)
  have h1 : Ieee.single.infRung = 2139095040 := inf32
  rcases Nat.lt_or_ge r 2139095040 with g | g
  · right
    obtain ⟨r0, _, _, h⟩ := widen_fin neg g
    rw [hw, h]; rfl
  · rcases Nat.eq_or_lt_of_le g with g | g
    · right
      subst g
      have hb : ¬ (2139095040 < Ieee.single.binade) := by rw [bin32]; decide
      have hread : FloatKind.f32.decode x = .infinity neg := by
        show Ieee.single.read x = _
        rw [hw, read_word _ _ hlt, if_neg hb, h1, if_neg (by decide), if_pos rfl]
      unfold floatToFloatBits
      rw [if_neg (by decide), hread]; rfl
    · left
      have hb : ¬ (r < Ieee.single.binade) := by rw [bin32]; omega
      refine (isn_iff _ _).2 ⟨neg, r - Ieee.single.infRung, ?_⟩
      show Ieee.single.read x = _
      rw [hw, read_word _ _ hlt, if_neg hb, if_neg (by rw [h1]; omega), if_neg (by rw [h1]; omega)]

/-! ### the walk -/
/-- 'w'' is 'w' but for answers drawn -/
def Dr (w w' : World) : Prop := ∃ n, w' = w.drewN n
theorem Dr.refl (w : World) : Dr w w := ⟨0, rfl⟩
theorem Dr.drewN {w w' : World} (h : Dr w w') (n : Nat) : Dr w (w'.drewN n) := by
  obtain ⟨m, rfl⟩ := h
  exact ⟨m + n, by simp⟩
theorem Dr.trans {w w' w'' : World} (h : Dr w w') (g : Dr w' w'') : Dr w w'' := by
  obtain ⟨m, rfl⟩ := h
  obtain ⟨n, rfl⟩ := g
  exact ⟨m + n, by simp⟩
theorem Dr.below {w w' : World} (h : Dr w w') (B : Nat) : RowKit.Below B w w' := by
  obtain ⟨n, rfl⟩ := h
  exact ⟨rfl, rfl, rfl, Nat.le_refl _, fun _ _ => rfl⟩

/-- what a call that hands back one float has done -/
def FRet (k : FloatKind) (X : Nat) (w : World) (e : Ending) (w' : World) : Prop := ∃ r, e = .returned (.float k r) ∧ Is k r X ∧ Dr w w'
/-- what a call that hands back one value and draws has done -/
def VRet (v : Value) (w : World) (e : Ending) (w' : World) : Prop := e = .returned v ∧ Dr w w'

theorem Is.lit {k : FloatKind} {b : Nat} (h : (decide (b < 2 ^ k.format.width) && !isn k b) = true) : Is k b b := by
  simp only [Bool.and_eq_true, decide_eq_true_eq, Bool.not_eq_true'] at h
  exact ⟨h.1, cn_of_not h.2⟩

theorem Is.ofInt (k : FloatKind) (n : Int) : Is k (floatOfInt k n) (floatOfInt k n) :=
  have h1 : isn k (floatOfInt k n) = false := write_not_nan k.format (d := .number (n < 0) n.natAbs 0) rfl
  ⟨k.format.write_lt (.number (n < 0) n.natAbs 0), cn_of_not h1⟩

theorem Is.mk {k : FloatKind} {b : Nat} (h : b < 2 ^ k.format.width) : Is k b (cn k b) := ⟨h, rfl⟩

variable {ops : Array Oper} {rest : List Oper} {a : Act} {Q : Exit → Act → World → Prop} {w : World} {dst : Option Tmp} {ty : TypeId} {pos : String} {after : Array Edge} {guard : Option (Nat × Bool)} {x y : Operand} {t t' : TypeId}

theorem wanted_none {o : Op} {y : Nat → Option Bool} : Region.wanted ⟨dst, o, ty, pos, after, none⟩ y = true := rfl
theorem wanted_some {o : Op} {j : Nat} {b : Bool} {tmps : Array Value} (h : yielded ops tmps j = some b) : Region.wanted ⟨dst, o, ty, pos, after, some (j, b)⟩ (yielded ops tmps) = true := by
  show (yielded ops tmps j == some b) = true
  rw [h]; simp

theorem wpList_run {o : Oper} {v : Value} {n : Nat} (hw : Region.wanted o (yielded ops a.tmps) = true)
    (hrun : (execOp a.eval o).run P w = .ok (.value v) (w.drewN n)) (hK : wpList P ops Q rest (a.put o.dst v) (w.drewN n)) : wpList P ops Q (o :: rest) a w := by
  unfold wpList
  rw [if_pos hw]
  left
  unfold Oper.wp
  rw [hrun]
  exact hK

theorem run_exec_binOp {op : BinOp} {k : FloatKind} {bx by' : Nat} {v : Value} {w' : World} (ex : a.eval x = .float k bx) (ey : a.eval y = .float k by')
    (h : (binOp op t (.float k bx) (.float k by')).run P w = .ok v w') : (execOp a.eval ⟨dst, .binOp op t x y t', ty, pos, after, guard⟩).run P w = .ok (.value v) w' := by
  cases op <;> simp [execOp, eqGuard, ex, ey, h]

theorem wpList_here {o : Oper} (h : wpList P ops Q (o :: rest) a w) : wpList P ops Q (o :: rest) a w := h

theorem wpList_fop {op : BinOp} (hop : op = .add ∨ op = .sub ∨ op = .mul ∨ op = .quo) {k : FloatKind} {bx by' X Y : Nat}
    (hw : Region.wanted ⟨dst, .binOp op t x y t', ty, pos, after, guard⟩ (yielded ops a.tmps) = true) (ex : a.eval x = .float k bx) (ey : a.eval y = .float k by') (hx : Is k bx X) (hy : Is k by' Y)
    (hK : ∀ r n, Is k r (fop op k X Y) → wpList P ops Q rest (a.put dst (.float k r)) (w.drewN n)) :
    wpList P ops Q (⟨dst, .binOp op t x y t', ty, pos, after, guard⟩ :: rest) a w := by
  obtain ⟨r, n, hrun, hr⟩ := run_fop (P := P) w op hop t k bx by'
  rw [hx.2, hy.2] at hr
  refine wpList_run (v := .float k r) (n := n) hw ?_ (hK r n hr)
  exact run_exec_binOp ex ey hrun

theorem wpList_fadd {k : FloatKind} {bx by' X Y : Nat}
    (hw : Region.wanted ⟨dst, .binOp .add t x y t', ty, pos, after, guard⟩ (yielded ops a.tmps) = true) (ex : a.eval x = .float k bx) (ey : a.eval y = .float k by') (hx : Is k bx X) (hy : Is k by' Y)
    (hK : ∀ r n, Is k r (fop .add k X Y) → wpList P ops Q rest (a.put dst (.float k r)) (w.drewN n)) :
    wpList P ops Q (⟨dst, .binOp .add t x y t', ty, pos, after, guard⟩ :: rest) a w := wpList_fop (by simp) hw ex ey hx hy hK
theorem wpList_fsub {k : FloatKind} {bx by' X Y : Nat}
    (hw : Region.wanted ⟨dst, .binOp .sub t x y t', ty, pos, after, guard⟩ (yielded ops a.tmps) = true) (ex : a.eval x = .float k bx) (ey : a.eval y = .float k by') (hx : Is k bx X) (hy : Is k by' Y)
    (hK : ∀ r n, Is k r (fop .sub k X Y) → wpList P ops Q rest (a.put dst (.float k r)) (w.drewN n)) :
    wpList P ops Q (⟨dst, .binOp .sub t x y t', ty, pos, after, guard⟩ :: rest) a w := wpList_fop (by simp) hw ex ey hx hy hK
theorem wpList_fmul {k : FloatKind} {bx by' X Y : Nat}
    (hw : Region.wanted ⟨dst, .binOp .mul t x y t', ty, pos, after, guard⟩ (yielded ops a.tmps) = true) (ex : a.eval x = .float k bx) (ey : a.eval y = .float k by') (hx : Is k bx X) (hy : Is k by' Y)
    (hK : ∀ r n, Is k r (fop .mul k X Y) → wpList P ops Q rest (a.put dst (.float k r)) (w.drewN n)) :
    wpList P ops Q (⟨dst, .binOp .mul t x y t', ty, pos, after, guard⟩ :: rest) a w := wpList_fop (by simp) hw ex ey hx hy hK
theorem wpList_fquo {k : FloatKind} {bx by' X Y : Nat}
    (hw : Region.wanted ⟨dst, .binOp .quo t x y t', ty, pos, after, guard⟩ (yielded ops a.tmps) = true) (ex : a.eval x = .float k bx) (ey : a.eval y = .float k by') (hx : Is k bx X) (hy : Is k by' Y)
    (hK : ∀ r n, Is k r (fop .quo k X Y) → wpList P ops Q rest (a.put dst (.float k r)) (w.drewN n)) :
    wpList P ops Q (⟨dst, .binOp .quo t x y t', ty, pos, after, guard⟩ :: rest) a w := wpList_fop (by simp) hw ex ey hx hy hK

theorem ord_is {k : FloatKind} {bx by' X Y : Nat} (hx : Is k bx X) (hy : Is k by' Y) : k.format.order bx by' = k.format.order X Y := by
  rw [← hx.2, ← hy.2, order_cn]

theorem wpList_feq {k : FloatKind} {bx by' X Y : Nat}
    (hw : Region.wanted ⟨dst, .binOp .eql t x y t', ty, pos, after, guard⟩ (yielded ops a.tmps) = true) (ex : a.eval x = .float k bx) (ey : a.eval y = .float k by') (hx : Is k bx X) (hy : Is k by' Y)
    (hK : wpList P ops Q rest (a.put dst (.bool (feq k X Y))) w) :
    wpList P ops Q (⟨dst, .binOp .eql t x y t', ty, pos, after, guard⟩ :: rest) a w :=
  wpList_run (n := 0) hw (run_exec_binOp ex ey (by rw [binOp_float_cmp_eql, ord_is hx hy]; rfl)) hK
theorem wpList_fne {k : FloatKind} {bx by' X Y : Nat}
    (hw : Region.wanted ⟨dst, .binOp .neq t x y t', ty, pos, after, guard⟩ (yielded ops a.tmps) = true) (ex : a.eval x = .float k bx) (ey : a.eval y = .float k by') (hx : Is k bx X) (hy : Is k by' Y)
    (hK : wpList P ops Q rest (a.put dst (.bool (fne k X Y))) w) :
    wpList P ops Q (⟨dst, .binOp .neq t x y t', ty, pos, after, guard⟩ :: rest) a w :=
  wpList_run (n := 0) hw (run_exec_binOp ex ey (by rw [binOp_float_cmp_neq, ord_is hx hy]; rfl)) hK
theorem wpList_flt {k : FloatKind} {bx by' X Y : Nat}
    (hw : Region.wanted ⟨dst, .binOp .lss t x y t', ty, pos, after, guard⟩ (yielded ops a.tmps) = true) (ex : a.eval x = .float k bx) (ey : a.eval y = .float k by') (hx : Is k bx X) (hy : Is k by' Y)
    (hK : wpList P ops Q rest (a.put dst (.bool (flt k X Y))) w) :
    wpList P ops Q (⟨dst, .binOp .lss t x y t', ty, pos, after, guard⟩ :: rest) a w :=
  wpList_run (n := 0) hw (run_exec_binOp ex ey (by rw [binOp_float_cmp_lss, ord_is hx hy]; rfl)) hK
theorem wpList_fle {k : FloatKind} {bx by' X Y : Nat}
    (hw : Region.wanted ⟨dst, .binOp .leq t x y t', ty, pos, after, guard⟩ (yielded ops a.tmps) = true) (ex : a.eval x = .float k bx) (ey : a.eval y = .float k by') (hx : Is k bx X) (hy : Is k by' Y)
    (hK : wpList P ops Q rest (a.put dst (.bool (fle k X Y))) w) :
    wpList P ops Q (⟨dst, .binOp .leq t x y t', ty, pos, after, guard⟩ :: rest) a w :=
  wpList_run (n := 0) hw (run_exec_binOp ex ey (by rw [binOp_float_cmp_leq, ord_is hx hy]; rfl)) hK
theorem wpList_fgt {k : FloatKind} {bx by' X Y : Nat}
    (hw : Region.wanted ⟨dst, .binOp .gtr t x y t', ty, pos, after, guard⟩ (yielded ops a.tmps) = true) (ex : a.eval x = .float k bx) (ey : a.eval y = .float k by') (hx : Is k bx X) (hy : Is k by' Y)
    (hK : wpList P ops Q rest (a.put dst (.bool (fgt k X Y))) w) :
    wpList P ops Q (⟨dst, .binOp .gtr t x y t', ty, pos, after, guard⟩ :: rest) a w :=
  wpList_run (n := 0) hw (run_exec_binOp ex ey (by rw [binOp_float_cmp_gtr, ord_is hx hy]; rfl)) hK
theorem wpList_fge {k : FloatKind} {bx by' X Y : Nat}
    (hw : Region.wanted ⟨dst, .binOp .geq t x y t', ty, pos, after, guard⟩ (yielded ops a.tmps) = true) (ex : a.eval x = .float k bx) (ey : a.eval y = .float k by') (hx : Is k bx X) (hy : Is k by' Y)
    (hK : wpList P ops Q rest (a.put dst (.bool (fge k X Y))) w) :
    wpList P ops Q (⟨dst, .binOp .geq t x y t', ty, pos, after, guard⟩ :: rest) a w :=
  wpList_run (n := 0) hw (run_exec_binOp ex ey (by rw [binOp_float_cmp_geq, ord_is hx hy]; rfl)) hK

/-- 'float64(x)' -/
theorem wpList_widen {src d : TypeId} {us : TypeDesc} (hs : P.underlying src = some us) (hd : P.underlying d = some (.float .f64)) {bx X : Nat}
    (hw : Region.wanted ⟨dst, .convert src d x, ty, pos, after, guard⟩ (yielded ops a.tmps) = true) (ex : a.eval x = .float .f32 bx) (hx : Is .f32 bx X)
    (hK : ∀ r n, Is .f64 r (wid X) → wpList P ops Q rest (a.put dst (.float .f64 r)) (w.drewN n)) :
    wpList P ops Q (⟨dst, .convert src d x, ty, pos, after, guard⟩ :: rest) a w := by
  obtain ⟨r, n, hrun, hr⟩ := run_conv (P := P) w src d .f32 .f64 (by decide) hs hd bx (widen_ok hx.1)
  rw [hx.2] at hr
  refine wpList_run (v := .float .f64 r) (n := n) hw ?_ (hK r n hr)
  simp [execOp, ex, hrun]

/-- 'float32(x)' -/
theorem wpList_narrow {src d : TypeId} {us : TypeDesc} (hs : P.underlying src = some us) (hd : P.underlying d = some (.float .f32)) {bx X : Nat}
    (hw : Region.wanted ⟨dst, .convert src d x, ty, pos, after, guard⟩ (yielded ops a.tmps) = true) (ex : a.eval x = .float .f64 bx) (hx : Is .f64 bx X) (hno : NoOv X)
    (hK : ∀ r n, Is .f32 r (nar X) → wpList P ops Q rest (a.put dst (.float .f32 r)) (w.drewN n)) :
    wpList P ops Q (⟨dst, .convert src d x, ty, pos, after, guard⟩ :: rest) a w := by
  have hno' : isn .f64 bx = true ∨ (floatToFloatBits .f64 bx .f32).isSome = true := by
    by_cases hn : isn .f64 bx = true
    · exact .inl hn
    · have : cn .f64 bx = bx := cn_of_not (by simpa using hn)
      have e : bx = X := by rw [← this]; exact hx.2
      subst e; exact hno
  obtain ⟨r, n, hrun, hr⟩ := run_conv (P := P) w src d .f64 .f32 (by decide) hs hd bx hno'
  rw [hx.2] at hr
  refine wpList_run (v := .float .f32 r) (n := n) hw ?_ (hK r n hr)
  simp [execOp, ex, hrun]

end

attribute [irreducible] feq fne flt fle fgt fge wid nar

end Go.Fl
