/-
  CONTRACTS: Go's math on 64-bit words: Signbit, Abs; sameness; subnormal numbers; from bits.
-/
import Derived.Test.YtianaalokclklaaDoorN1
import Derived.Test.YtianaalokclklaaDoorLaw1
import Derived.Lib.Hide
set_option linter.unusedSimpArgs false
namespace Go.Proofs.YtianaalokclklaaDoor
open Go.RowKit Go.Fl

theorem is_of_num {k : FloatKind} {x X : Nat} (h : Is k x X) (hn : isn k X = false) : x = X := by
  have h1 : isn k x = false := by rw [← isn_cn, h.2]; exact hn
  rw [← h.2, cn_of_not h1]

theorem same3 {x X y Y r s : Nat} (hx : Is .f32 x X) (hy : Is .f32 y Y) (hr : Is .f64 r (wid X)) (hs : Is .f64 s (wid Y)) (h1 : ¬ fne .f32 X X = true) (h2 : fne .f32 Y Y = false) (h3 : feq .f32 X Y = true) :
    (decide (9223372036854775808 ≤ r) == decide (9223372036854775808 ≤ s)) = (X == Y) := by
  have n1 : isn .f32 X = false := num_of_fne (by simpa using h1)
  have n2 : isn .f32 Y = false := num_of_fne h2
  have l := same_law hx.can hy.can n1 n2
  rw [h3, Bool.true_and] at l
  rw [is_of_num hr (wid_num (can32_lt hx.can) n1), is_of_num hs (wid_num (can32_lt hy.can) n2)]
  exact l
theorem same4 {X Y : Nat} (h1 : ¬ fne .f32 X X = true) (_h2 : fne .f32 Y Y = false) (h3 : ¬ feq .f32 X Y = true) : false = (X == Y) := by
  symm
  rw [beq_eq_false_iff_ne]
  rintro rfl
  exact h3 ((feq_iff _ _ _).2 ⟨num_of_fne (by simpa using h1), num_of_fne (by simpa using h1), rfl⟩)
theorem ret_t2 {k : FloatKind} {r r' : Nat} {b b' : Bool} (h : r = r') (g : b = b') : Ending.returned (.tuple #[.float k r, .bool b]) = .returned (.tuple #[.float k r', .bool b']) := by rw [h, g]
def bitsOk (n : Int) : Bool := decide (0 ≤ n) && decide (n ≤ 4294967295)
def FBpost (n : Int) (w : World) (e : Ending) (w' : World) : Prop := e = .returned (.tuple #[.float .f32 (if bitsOk n then n.toNat else 0), .bool (bitsOk n)]) ∧ w = w'
def subn (X : Nat) : Bool := fne .f32 X 0 && decide (X &&& 2139095040 = 0)
end Go.Proofs.YtianaalokclklaaDoor
