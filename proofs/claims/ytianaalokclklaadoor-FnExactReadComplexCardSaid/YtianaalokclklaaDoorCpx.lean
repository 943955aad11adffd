/-
  THE WALK's LAW FOR THE WIDENING OF A COMPLEX NUMBER. (No program here.)
-/
import Derived.Test.YtianaalokclklaaDoorLaw2
set_option linter.unusedVariables false
set_option linter.unusedSimpArgs false
namespace Go.Fl
open Go Ieee
section
variable {P : Program} {ops : Array Oper} {rest : List Oper} {a : Act} {Q : Exit → Act → World → Prop} {w : World} {dst : Option Tmp} {ty : TypeId} {pos : String} {after : Array Edge} {guard : Option (Nat × Bool)} {x y : Operand} {t t' : TypeId}

theorem run_f2f (w : World) (src d : TypeId) {us : TypeDesc} (hs : P.underlying src = some us) (hd : P.underlying d = some (.float .f64)) {b B : Nat} (hb : Is .f32 b B) :
    ∃ r n, (Conv.floatToFloat .f32 b .f64).run P w = .ok (.float .f64 r) (w.drewN n) ∧ Is .f64 r (wid B) := by
  obtain ⟨r, n, hrun, hr⟩ := run_conv (P := P) w src d .f32 .f64 (by decide) hs hd b (widen_ok hb.1)
  refine ⟨r, n, ?_, by unfold wid; rw [← hb.2]; exact hr⟩
  rw [← hrun]
  cases us <;> simp [convert, run_underlying hs, run_underlying hd]

theorem wpList_cwiden {src d sf df : TypeId} {us uf : TypeDesc} (hs : P.underlying src = some us) (hd : P.underlying d = some (.complex .f64)) (hsf : P.underlying sf = some uf) (hdf : P.underlying df = some (.float .f64)) {b1 b2 B1 B2 : Nat}
    (hw : Region.wanted ⟨dst, .convert src d x, ty, pos, after, guard⟩ (yielded ops a.tmps) = true) (ex : a.eval x = .complex .f32 b1 b2) (h1 : Is .f32 b1 B1) (h2 : Is .f32 b2 B2)
    (hK : ∀ r s nd, Is .f64 r (wid B1) → Is .f64 s (wid B2) → wpList P ops Q rest (a.put dst (.complex .f64 r s)) (w.drewN nd)) :
    wpList P ops Q (⟨dst, .convert src d x, ty, pos, after, guard⟩ :: rest) a w := by
  obtain ⟨r, n, e1, g1⟩ := run_f2f w sf df hsf hdf h1
  obtain ⟨s, m, e2, g2⟩ := run_f2f (w.drewN n) sf df hsf hdf h2
  rw [World.drewN_drewN] at e2
  refine wpList_run (v := .complex .f64 r s) (n := n + m) hw ?_ (hK r s _ g1 g2)
  have : (convert src d (.complex .f32 b1 b2)).run P w = .ok (.complex .f64 r s) (w.drewN (n + m)) := by
    cases us <;> simp [convert, run_underlying hs, run_underlying hd, Conv.complexToComplex, e1, e2]
  simp [execOp, ex, this]
end
end Go.Fl
