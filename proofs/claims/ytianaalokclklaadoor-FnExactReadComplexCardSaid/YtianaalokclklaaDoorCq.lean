/-
  ROWS OF VALUES OF ONE CELL OF THE CALL's OWN; complex numbers widened in a region, narrowed, compared. (No program here.)
-/
import Derived.Test.YtianaalokclklaaDoorCpx
import Derived.Test.YtianaalokclklaaDoorRs
import Derived.Test.YtianaalokclklaaDoorIo
set_option linter.unusedVariables false
set_option linter.unusedSimpArgs false
namespace Go.Fl
open Go Ieee Go.RowKit

/-- '.slice ao n c' reads as the values 'f' in 'w' -/
structure VRow (w : World) (ao : Option Addr) (n : Nat) (f : Nat → Value) : Prop where
  at0 : 0 < n → ∃ b off, ao = some ⟨b, off, none⟩ ∧ b < w.heap.size ∧ ∀ i, i < n → w.cell? ⟨b, off + i, none⟩ = some (f i)
theorem VRow.bel {w w' : World} {ao : Option Addr} {n : Nat} {f : Nat → Value} (h : VRow w ao n f) (hb : Bel w w') : VRow w' ao n f := by
  refine ⟨fun hn => ?_⟩
  obtain ⟨b, off, h1, h2, h3⟩ := h.at0 hn
  refine ⟨b, off, h1, Nat.lt_of_lt_of_le h2 hb.size, fun i hi => ?_⟩
  rw [hb.cell (p := ⟨b, off + i, none⟩) h2]
  exact h3 i hi
theorem VRow.only {w w' : World} {ao bo : Option Addr} {n : Nat} {f : Nat → Value} (h : VRow w ao n f) (ho : Only bo w w') (hd : 0 < n → ∀ a b, ao = some a → bo = some b → b.block ≠ a.block) : VRow w' ao n f := by
  refine ⟨fun hn => ?_⟩
  obtain ⟨b, off, h1, h2, h3⟩ := h.at0 hn
  refine ⟨b, off, h1, by rw [ho.size]; exact h2, fun i hi => ?_⟩
  rw [World.cell?_of_block (w := w) (a := ⟨b, off + i, none⟩) (ho.block b (fun a ha => hd hn _ _ h1 ha))]
  exact h3 i hi
/-- a row of the call's own, in a block from 'lo' on and below 'hi' -/
structure VORow (lo hi : Nat) (w : World) (ao : Option Addr) (n : Nat) (f : Nat → Value) : Prop where
  row : VRow w ao n f
  own : ∀ a, ao = some a → lo ≤ a.block ∧ a.block < hi ∧ a.block < w.heap.size ∧ ∀ j, w.frozen? ⟨a.block, j, none⟩ = false
theorem VORow.bel {lo hi : Nat} {w w' : World} {ao : Option Addr} {n : Nat} {f : Nat → Value} (h : VORow lo hi w ao n f) (hb : Bel w w') : VORow lo hi w' ao n f := by
  refine ⟨h.row.bel hb, fun a ha => ?_⟩
  obtain ⟨h1, h2, h3, h4⟩ := h.own a ha
  refine ⟨h1, h2, Nat.lt_of_lt_of_le h3 hb.size, fun j => ?_⟩
  rw [hb.frozen (p := ⟨a.block, j, none⟩) h3]; exact h4 j
theorem VORow.only {lo hi : Nat} {w w' : World} {ao bo : Option Addr} {n : Nat} {f : Nat → Value} (h : VORow lo hi w ao n f) (ho : Only bo w w') (hd : ∀ a b, ao = some a → bo = some b → b.block ≠ a.block) : VORow lo hi w' ao n f := by
  refine ⟨h.row.only ho (fun _ => hd), fun a ha => ?_⟩
  obtain ⟨h1, h2, h3, h4⟩ := h.own a ha
  refine ⟨h1, h2, by rw [ho.size]; exact h3, fun j => ?_⟩
  rw [World.frozen?_of_block (w := w) (a := ⟨a.block, j, none⟩) (ho.block a.block (fun b hb => hd _ _ ha hb))]
  exact h4 j
theorem VORow.nil (lo hi : Nat) (w : World) (f : Nat → Value) : VORow lo hi w none 0 f := ⟨⟨fun h => absurd h (by omega)⟩, fun a h => by cases h⟩
/-- a row under way: the first 'i' of 'n' are written -/
structure VMFill (b off : Nat) (w wr : World) (n i : Nat) (f g : Nat → Value) : Prop where
  only : Only (some ⟨b, off, none⟩) w wr
  cells : ∀ j, j < n → wr.cell? ⟨b, off + j, none⟩ = some (if j < i then g j else f j)
  thaw : ∀ j, wr.frozen? ⟨b, j, none⟩ = false
theorem VMFill.start {lo hi b off : Nat} {w : World} {n : Nat} {f g : Nat → Value} (h : VORow lo hi w (some ⟨b, off, none⟩) n f) (hn : 0 < n) : VMFill b off w w n 0 f g := by
  refine ⟨Only.refl _ _, fun j hj => ?_, (h.own _ rfl).2.2.2⟩
  obtain ⟨b', off', h1, h2, h3⟩ := h.row.at0 hn
  cases h1
  rw [h3 j hj, if_neg (by omega)]
theorem VMFill.next {b off : Nat} {w wr : World} {n i : Nat} {f g : Nat → Value} (h : VMFill b off w wr n i f g) (hi' : i < n) : VMFill b off w (wr.setCell ⟨b, off + i, none⟩ (g i)) n (i + 1) f g := by
  refine ⟨h.only.setCell _ _, fun j hj => ?_, fun j => by rw [World.frozen?_setCell]; exact h.thaw j⟩
  by_cases e : i = j
  · subst e
    rw [World.cell?_setCell_same _ _ _ (h.cells i hi'), if_pos (by omega)]
  · rw [World.cell?_setCell_other _ _ _ _ (by intro he; have := congrArg Addr.off he; simp at this; omega), h.cells j hj]
    by_cases g : j < i
    · rw [if_pos g, if_pos (by omega)]
    · rw [if_neg g, if_neg (by omega)]
theorem VMFill.done {lo hi b off : Nat} {w wr : World} {n : Nat} {f g : Nat → Value} (h : VMFill b off w wr n n f g) (hO : VORow lo hi w (some ⟨b, off, none⟩) n f) : VORow lo hi wr (some ⟨b, off, none⟩) n g := by
  obtain ⟨h1, h2, h3, _⟩ := hO.own _ rfl
  have hs := h.only.size
  refine ⟨⟨fun hn => ⟨b, off, rfl, by rw [hs]; exact h3, fun i hi => by rw [h.cells i hi, if_pos hi]⟩⟩, fun a ha => ?_⟩
  cases ha; exact ⟨h1, h2, by rw [hs]; exact h3, h.thaw⟩
/-- complex numbers with these parts -/
def cvals (xs ys : List Nat) : Nat → Value := fun i => .complex .f32 (xs.getD i 0) (ys.getD i 0)
/-- the mark of a whole number -/
def cm (m : Nat) : Nat := nar (floatOfInt .f64 (m : Int))
def cmOk (m : Nat) : Bool := (floatToFloatBits .f64 (floatOfInt .f64 (m : Int)) .f32).isSome && feq .f32 (cm m) (cm m)
theorem cmOk_all : ∀ m : Fin 300, cmOk m.val = true := by decide +kernel
theorem one_ok : floatToFloatBits .f64 4607182418800017408 .f32 = some 1065353216 := by decide +kernel
theorem one_eq : feq .f32 1065353216 1065353216 = true := by decide +kernel
def cmarks (k : Nat) : Nat → Value := fun i => .complex .f32 (cm (k + i)) 1065353216
section
variable {P : Program}
theorem run_f2n (w : World) (src d : TypeId) {us : TypeDesc} (hs : P.underlying src = some us) (hd : P.underlying d = some (.float .f32)) {b r : Nat} (hb : floatToFloatBits .f64 b .f32 = some r) :
    (Conv.floatToFloat .f64 b .f32).run P w = .ok (.float .f32 r) w := by
  have h := run_convert_float_float w src d .f64 .f32 b r (by rw [hs]; rfl) hd hb
  rw [← h]
  cases us <;> simp [convert, run_underlying hs, run_underlying hd]
/-- a complex number narrowed, both parts exact -/
theorem run_c2n (w : World) (src d sf df : TypeId) {us uf : TypeDesc} (hs : P.underlying src = some us) (hd : P.underlying d = some (.complex .f32)) (hsf : P.underlying sf = some uf) (hdf : P.underlying df = some (.float .f32)) {a b r s : Nat}
    (ha : floatToFloatBits .f64 a .f32 = some r) (hb : floatToFloatBits .f64 b .f32 = some s) : (convert src d (.complex .f64 a b)).run P w = .ok (.complex .f32 r s) w := by
  have e1 := run_f2n w sf df hsf hdf ha
  have e2 := run_f2n w sf df hsf hdf hb
  cases us <;> simp [convert, run_underlying hs, run_underlying hd, Conv.complexToComplex, e1, e2]
theorem run_cne (w : World) (t : TypeId) {a b : Nat} (ha : feq .f32 a a = true) (hb : feq .f32 b b = true) : (binOp .neq t (.complex .f32 a b) (.complex .f32 a b)).run P w = .ok (.bool false) w := by
  unfold feq at ha hb
  simp only [binOp, ne_eq, not_true_eq_false, if_false, Op.complexOp, Op.Complex.cmp, Op.floatCmp, ha, hb]
  simp [asBool]
theorem cm_ok {m : Nat} (h : m < 300) : floatToFloatBits .f64 (floatOfInt .f64 (m : Int)) .f32 = some (cm m) ∧ feq .f32 (cm m) (cm m) = true := by
  have := cmOk_all ⟨m, h⟩
  unfold cmOk at this
  rw [Bool.and_eq_true] at this
  obtain ⟨r, hr⟩ := Option.isSome_iff_exists.1 this.1
  refine ⟨?_, this.2⟩
  have hr' : floatToFloatBits .f64 (floatOfInt .f64 (m : Int)) .f32 = some r := hr
  unfold cm nar
  rw [hr']; rfl
end
end Go.Fl
namespace Go.Rk
open Go Go.Fl
def IsC64 (X Y : Nat) : KSet := fun _ u => ∃ r s, u = .complex .f64 r s ∧ Is .f64 r X ∧ Is .f64 s Y
theorem mon_isC64 {Le : World → World → Prop} (X Y : Nat) : Mon Le (IsC64 X Y) := fun _ _ _ _ h => h
section
variable {P : Program} {ops : Array Oper} {W : World} {Le : World → World → Prop} {Q : Known → Prop} {rest : List Oper} {A : Known} {dst : Option Tmp} {ty : TypeId} {pos : String} {after : Array Edge} {guard : Option (Nat × Bool)} {x y : Operand}
theorem wpR_cwiden (hL : Good Le) {src d sf df : TypeId} {us uf : TypeDesc} (hs : P.underlying src = some us) (hd : P.underlying d = some (.complex .f64)) (hsf : P.underlying sf = some uf) (hdf : P.underlying df = some (.float .f64)) {a b X Y : Nat}
    (h1 : Is .f32 a X) (h2 : Is .f32 b Y) (hy : Yes ops A ⟨dst, .convert src d x, ty, pos, after, guard⟩) (hS : slotS A x = Is1 (.complex .f32 a b)) (h : wpR P ops Le W Q rest (upd A dst (IsC64 (wid X) (wid Y)))) :
    wpR P ops Le W Q (⟨dst, .convert src d x, ty, pos, after, guard⟩ :: rest) A := by
  refine ⟨_, mon_isC64 _ _, gives_run hy fun w hw ac ha => ?_, h⟩
  have e0 := fits_eval ha x (looks_op (by simp [Op.operands]))
  rw [hS] at e0
  have e0' : ac.eval x = .complex .f32 a b := e0
  obtain ⟨r, n, e1, g1⟩ := run_f2f (P := P) w sf df hsf hdf h1
  obtain ⟨s, m, e2, g2⟩ := run_f2f (P := P) (w.drewN n) sf df hsf hdf h2
  rw [World.drewN_drewN] at e2
  refine ⟨.complex .f64 r s, w.drewN (n + m), ?_, hL.draw _ _, r, s, rfl, g1, g2⟩
  have : (convert src d (.complex .f32 a b)).run P w = .ok (.complex .f64 r s) (w.drewN (n + m)) := by
    cases us <;> simp [convert, run_underlying hs, run_underlying hd, Conv.complexToComplex, e1, e2]
  simp [execOp, e0', this]
end
end Go.Rk
