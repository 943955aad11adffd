/-
  THE STEPS OF THE WALK THROUGH A REGION THAT DRAWS ITS ORDER, slot by slot as sets. (No program here.)
-/
import Derived.Test.YtianaalokclklaaDoorRg
set_option linter.unusedVariables false
set_option linter.unusedSimpArgs false
namespace Go.Rg
open Go Go.Fl

/-- some word for 'X' -/
def IsF (k : FloatKind) (X : Nat) : Value → Prop := fun u => ∃ r, u = .float k r ∧ Is k r X

def slotS (A : Known) : Operand → (Value → Prop)
  | .tmp t => A.getD t (Is1 undef)
  | .const v => Is1 v
  | .global g => Is1 (.pointer (some ⟨g, 0, none⟩))
  | .func f => Is1 (.func (.func f) #[] #[])

theorem fits_eval {A : Known} {a : Act} (h : Fits A a) (x : Operand) : slotS A x (a.eval x) := by
  cases x with
  | tmp t =>
    show (A.getD t (Is1 undef)) (a.tmps.getD t undef)
    rw [List.getD_eq_getElem?_getD, Array.getD_eq_getD_getElem?]
    cases hS : A[t]? with
    | none =>
      have : a.tmps[t]? = none := by
        rw [List.getElem?_eq_none_iff] at hS
        rw [Array.getElem?_eq_none_iff, ← h.1]; exact hS
      rw [this]; rfl
    | some S =>
      have hlt := (List.getElem?_eq_some_iff.1 hS).1
      cases hv : a.tmps[t]? with
      | none => rw [Array.getElem?_eq_none_iff, ← h.1] at hv; omega
      | some v => exact h.2 t S v hS hv
  | const v => rfl
  | global g => rfl
  | func f => rfl

section
variable {P : Program} {ops : Array Oper} {w : World} {Q : Known → Prop} {rest : List Oper} {A : Known} {dst : Option Tmp} {ty : TypeId} {pos : String} {after : Array Edge} {guard : Option (Nat × Bool)} {x y z : Operand} {t t' : TypeId}

/-- the worlds: 'w' after some draws -/
abbrev Cw (w : World) : World → Prop := fun w' => ∃ n, w' = w.drewN n

/-- the guard says yes in every frame that is as is known -/
def Yes (ops : Array Oper) (A : Known) (o : Oper) : Prop := ∀ a, Fits A a → Region.wanted o (yielded ops a.tmps) = true

theorem yes_none {o : Op} : Yes ops A ⟨dst, o, ty, pos, after, none⟩ := fun _ _ => rfl
theorem guard_is {j d : Nat} {c : Bool} (h1 : (ops[j]?).bind (·.dst) = some d) (h2 : A[d]? = some (Is1 (.bool c))) {a : Act} (ha : Fits A a) : yielded ops a.tmps j = some c := by
  unfold yielded
  rw [h1]
  have hlt := (List.getElem?_eq_some_iff.1 h2).1
  cases hv : a.tmps[d]? with
  | none => rw [Array.getElem?_eq_none_iff, ← ha.1] at hv; omega
  | some v =>
    have := ha.2 d _ v h2 hv
    show (match a.tmps[d]? with | some (.bool b) => some b | _ => none) = some c
    rw [hv]
    have e : v = .bool c := this
    rw [e]
theorem yes_some {o : Op} {j d : Nat} {b : Bool} (h1 : (ops[j]?).bind (·.dst) = some d) (h2 : A[d]? = some (Is1 (.bool b))) : Yes ops A ⟨dst, o, ty, pos, after, some (j, b)⟩ := by
  intro a ha
  show (yielded ops a.tmps j == some b) = true
  rw [guard_is h1 h2 ha]; simp

theorem wpR_skip {o : Op} {j d : Nat} {b c : Bool} (h1 : (ops[j]?).bind (·.dst) = some d) (h2 : A[d]? = some (Is1 (.bool c))) (hne : (c == b) = false)
    (h : wpR P ops (Cw w) Q rest (upd A dst (Is1 undef))) : wpR P ops (Cw w) Q (⟨dst, o, ty, pos, after, some (j, b)⟩ :: rest) A := by
  refine ⟨_, ?_, h⟩
  intro a ha
  have e : Region.wanted ⟨dst, o, ty, pos, after, some (j, b)⟩ (yielded ops a.tmps) = false := by
    show (yielded ops a.tmps j == some b) = false
    rw [guard_is h1 h2 ha]; simpa using hne
  rw [e]
  exact ⟨fun h => (by cases h), fun _ => rfl⟩

theorem gives_run {o : Oper} {V : Value → Prop} (hy : Yes ops A o) (h : ∀ a, Fits A a → ∀ n, ∃ u m, (execOp a.eval o).run P (w.drewN n) = .ok (.value u) (w.drewN m) ∧ V u) : Gives P ops (Cw w) o A V := by
  intro a ha
  rw [hy a ha]
  refine ⟨fun _ w' hw' => ?_, fun h => by cases h⟩
  obtain ⟨n, rfl⟩ := hw'
  obtain ⟨u, m, h1, h2⟩ := h a ha n
  rw [h1]
  exact ⟨⟨m, rfl⟩, h2⟩

theorem wpR_move (hy : Yes ops A ⟨dst, .move x, ty, pos, after, guard⟩) {S : Value → Prop} (hS : slotS A x = S) (h : wpR P ops (Cw w) Q rest (upd A dst S)) :
    wpR P ops (Cw w) Q (⟨dst, .move x, ty, pos, after, guard⟩ :: rest) A := by
  subst hS
  exact ⟨_, gives_run hy fun a ha n => ⟨_, n, rfl, fits_eval ha x⟩, h⟩
theorem wpR_assign (hy : Yes ops A ⟨dst, .assign x, ty, pos, after, guard⟩) {S : Value → Prop} (hS : slotS A x = S) (h : wpR P ops (Cw w) Q rest (upd A dst S)) :
    wpR P ops (Cw w) Q (⟨dst, .assign x, ty, pos, after, guard⟩ :: rest) A := by
  subst hS
  exact ⟨_, gives_run hy fun a ha n => ⟨_, n, rfl, fits_eval ha x⟩, h⟩
theorem wpR_pick {c : Bool} (hy : Yes ops A ⟨dst, .pick x y z, ty, pos, after, guard⟩) (hc : slotS A x = Is1 (.bool c)) {S : Value → Prop} (hS : slotS A (if c then y else z) = S)
    (h : wpR P ops (Cw w) Q rest (upd A dst S)) : wpR P ops (Cw w) Q (⟨dst, .pick x y z, ty, pos, after, guard⟩ :: rest) A := by
  subst hS
  refine ⟨_, gives_run hy fun a ha n => ⟨a.eval (if c then y else z), n, ?_, fits_eval ha _⟩, h⟩
  have e : a.eval x = .bool c := by have := fits_eval ha x; rw [hc] at this; exact this
  cases c <;> simp [execOp, e, asBool]

/-- a set of words for 'X' -/
def SubF (S : Value → Prop) (k : FloatKind) (X : Nat) : Prop := ∀ v, S v → ∃ b, v = .float k b ∧ Is k b X
theorem subF_is (k : FloatKind) (X : Nat) : SubF (IsF k X) k X := fun v h => h
theorem subF_eq {k : FloatKind} {b X : Nat} (h : Is k b X) : SubF (Is1 (.float k b)) k X := fun v hv => ⟨b, hv, h⟩

theorem sub_eval {S : Value → Prop} {k : FloatKind} {X : Nat} {a : Act} (ha : Fits A a) (hS : slotS A x = S) (h : SubF S k X) : ∃ b, a.eval x = .float k b ∧ Is k b X := by
  subst hS; exact h _ (fits_eval ha x)

theorem wpR_fop {op : BinOp} (hop : op = .add ∨ op = .sub ∨ op = .mul ∨ op = .quo) {k : FloatKind} {X Y : Nat} {S T : Value → Prop} (hy : Yes ops A ⟨dst, .binOp op t x y t', ty, pos, after, guard⟩)
    (hS : slotS A x = S) (hT : slotS A y = T) (hX : SubF S k X) (hY : SubF T k Y) (h : wpR P ops (Cw w) Q rest (upd A dst (IsF k (fop op k X Y)))) :
    wpR P ops (Cw w) Q (⟨dst, .binOp op t x y t', ty, pos, after, guard⟩ :: rest) A := by
  refine ⟨_, gives_run hy fun a ha n => ?_, h⟩
  obtain ⟨b, e1, h1⟩ := sub_eval ha hS hX
  obtain ⟨c, e2, h2⟩ := sub_eval ha hT hY
  obtain ⟨r, m, hrun, hr⟩ := run_fop (P := P) (w.drewN n) op hop t k b c
  rw [h1.2, h2.2] at hr
  rw [World.drewN_drewN] at hrun
  exact ⟨_, _, run_exec_binOp e1 e2 hrun, r, rfl, hr⟩
theorem wpR_fadd {k : FloatKind} {X Y : Nat} {S T : Value → Prop} (hy : Yes ops A ⟨dst, .binOp .add t x y t', ty, pos, after, guard⟩)
    (hS : slotS A x = S) (hT : slotS A y = T) (hX : SubF S k X) (hY : SubF T k Y) (h : wpR P ops (Cw w) Q rest (upd A dst (IsF k (fop .add k X Y)))) :
    wpR P ops (Cw w) Q (⟨dst, .binOp .add t x y t', ty, pos, after, guard⟩ :: rest) A := wpR_fop (by simp) hy hS hT hX hY h
theorem wpR_fsub {k : FloatKind} {X Y : Nat} {S T : Value → Prop} (hy : Yes ops A ⟨dst, .binOp .sub t x y t', ty, pos, after, guard⟩)
    (hS : slotS A x = S) (hT : slotS A y = T) (hX : SubF S k X) (hY : SubF T k Y) (h : wpR P ops (Cw w) Q rest (upd A dst (IsF k (fop .sub k X Y)))) :
    wpR P ops (Cw w) Q (⟨dst, .binOp .sub t x y t', ty, pos, after, guard⟩ :: rest) A := wpR_fop (by simp) hy hS hT hX hY h
theorem wpR_fmul {k : FloatKind} {X Y : Nat} {S T : Value → Prop} (hy : Yes ops A ⟨dst, .binOp .mul t x y t', ty, pos, after, guard⟩)
    (hS : slotS A x = S) (hT : slotS A y = T) (hX : SubF S k X) (hY : SubF T k Y) (h : wpR P ops (Cw w) Q rest (upd A dst (IsF k (fop .mul k X Y)))) :
    wpR P ops (Cw w) Q (⟨dst, .binOp .mul t x y t', ty, pos, after, guard⟩ :: rest) A := wpR_fop (by simp) hy hS hT hX hY h
theorem wpR_fquo {k : FloatKind} {X Y : Nat} {S T : Value → Prop} (hy : Yes ops A ⟨dst, .binOp .quo t x y t', ty, pos, after, guard⟩)
    (hS : slotS A x = S) (hT : slotS A y = T) (hX : SubF S k X) (hY : SubF T k Y) (h : wpR P ops (Cw w) Q rest (upd A dst (IsF k (fop .quo k X Y)))) :
    wpR P ops (Cw w) Q (⟨dst, .binOp .quo t x y t', ty, pos, after, guard⟩ :: rest) A := wpR_fop (by simp) hy hS hT hX hY h

theorem wpR_cmp {op : BinOp} {k : FloatKind} {X Y : Nat} {S T : Value → Prop} {c : Bool} (hc : ∀ b d, Is k b X → Is k d Y → binOp op t (.float k b) (.float k d) = pure (.bool c))
    (hy : Yes ops A ⟨dst, .binOp op t x y t', ty, pos, after, guard⟩)
    (hS : slotS A x = S) (hT : slotS A y = T) (hX : SubF S k X) (hY : SubF T k Y) (h : wpR P ops (Cw w) Q rest (upd A dst (Is1 (.bool c)))) :
    wpR P ops (Cw w) Q (⟨dst, .binOp op t x y t', ty, pos, after, guard⟩ :: rest) A := by
  refine ⟨_, gives_run hy fun a ha n => ?_, h⟩
  obtain ⟨b, e1, h1⟩ := sub_eval ha hS hX
  obtain ⟨d, e2, h2⟩ := sub_eval ha hT hY
  exact ⟨_, n, run_exec_binOp e1 e2 (by rw [hc b d h1 h2]; rfl), rfl⟩
theorem wpR_feq {k : FloatKind} {X Y : Nat} {S T : Value → Prop} (hy : Yes ops A ⟨dst, .binOp .eql t x y t', ty, pos, after, guard⟩)
    (hS : slotS A x = S) (hT : slotS A y = T) (hX : SubF S k X) (hY : SubF T k Y) (h : wpR P ops (Cw w) Q rest (upd A dst (Is1 (.bool (feq k X Y))))) :
    wpR P ops (Cw w) Q (⟨dst, .binOp .eql t x y t', ty, pos, after, guard⟩ :: rest) A :=
  wpR_cmp (fun b d h1 h2 => by rw [binOp_float_cmp_eql, ord_is h1 h2]; unfold feq; rfl) hy hS hT hX hY h
theorem wpR_fne {k : FloatKind} {X Y : Nat} {S T : Value → Prop} (hy : Yes ops A ⟨dst, .binOp .neq t x y t', ty, pos, after, guard⟩)
    (hS : slotS A x = S) (hT : slotS A y = T) (hX : SubF S k X) (hY : SubF T k Y) (h : wpR P ops (Cw w) Q rest (upd A dst (Is1 (.bool (fne k X Y))))) :
    wpR P ops (Cw w) Q (⟨dst, .binOp .neq t x y t', ty, pos, after, guard⟩ :: rest) A :=
  wpR_cmp (fun b d h1 h2 => by rw [binOp_float_cmp_neq, ord_is h1 h2]; unfold fne; rfl) hy hS hT hX hY h
theorem wpR_flt {k : FloatKind} {X Y : Nat} {S T : Value → Prop} (hy : Yes ops A ⟨dst, .binOp .lss t x y t', ty, pos, after, guard⟩)
    (hS : slotS A x = S) (hT : slotS A y = T) (hX : SubF S k X) (hY : SubF T k Y) (h : wpR P ops (Cw w) Q rest (upd A dst (Is1 (.bool (flt k X Y))))) :
    wpR P ops (Cw w) Q (⟨dst, .binOp .lss t x y t', ty, pos, after, guard⟩ :: rest) A :=
  wpR_cmp (fun b d h1 h2 => by rw [binOp_float_cmp_lss, ord_is h1 h2]; unfold flt; rfl) hy hS hT hX hY h
theorem wpR_fgt {k : FloatKind} {X Y : Nat} {S T : Value → Prop} (hy : Yes ops A ⟨dst, .binOp .gtr t x y t', ty, pos, after, guard⟩)
    (hS : slotS A x = S) (hT : slotS A y = T) (hX : SubF S k X) (hY : SubF T k Y) (h : wpR P ops (Cw w) Q rest (upd A dst (Is1 (.bool (fgt k X Y))))) :
    wpR P ops (Cw w) Q (⟨dst, .binOp .gtr t x y t', ty, pos, after, guard⟩ :: rest) A :=
  wpR_cmp (fun b d h1 h2 => by rw [binOp_float_cmp_gtr, ord_is h1 h2]; unfold fgt; rfl) hy hS hT hX hY h
theorem wpR_fge {k : FloatKind} {X Y : Nat} {S T : Value → Prop} (hy : Yes ops A ⟨dst, .binOp .geq t x y t', ty, pos, after, guard⟩)
    (hS : slotS A x = S) (hT : slotS A y = T) (hX : SubF S k X) (hY : SubF T k Y) (h : wpR P ops (Cw w) Q rest (upd A dst (Is1 (.bool (fge k X Y))))) :
    wpR P ops (Cw w) Q (⟨dst, .binOp .geq t x y t', ty, pos, after, guard⟩ :: rest) A :=
  wpR_cmp (fun b d h1 h2 => by rw [binOp_float_cmp_geq, ord_is h1 h2]; unfold fge; rfl) hy hS hT hX hY h

theorem wpR_widen {src d : TypeId} {us : TypeDesc} (hs : P.underlying src = some us) (hd : P.underlying d = some (.float .f64)) {X : Nat} {S : Value → Prop}
    (hy : Yes ops A ⟨dst, .convert src d x, ty, pos, after, guard⟩) (hS : slotS A x = S) (hX : SubF S .f32 X) (h : wpR P ops (Cw w) Q rest (upd A dst (IsF .f64 (wid X)))) :
    wpR P ops (Cw w) Q (⟨dst, .convert src d x, ty, pos, after, guard⟩ :: rest) A := by
  refine ⟨_, gives_run hy fun a ha n => ?_, h⟩
  obtain ⟨b, e1, h1⟩ := sub_eval ha hS hX
  obtain ⟨r, m, hrun, hr⟩ := run_conv (P := P) (w.drewN n) src d .f32 .f64 (by decide) hs hd b (widen_ok h1.1)
  rw [h1.2] at hr
  rw [World.drewN_drewN] at hrun
  refine ⟨.float .f64 r, n + m, ?_, r, rfl, ?_⟩
  · simp [execOp, e1, hrun]
  · unfold wid; exact hr

/-- any operation all of whose operands are known outright: one operand, two -/
theorem wpR_one {o : Op} {v u : Value} (x : Operand) (hy : Yes ops A ⟨dst, o, ty, pos, after, guard⟩) (hx : slotS A x = Is1 v)
    (hrun : ∀ (ρ : Operand → Value) (n : Nat), ρ x = v → (execOp ρ ⟨dst, o, ty, pos, after, guard⟩).run P (w.drewN n) = .ok (.value u) (w.drewN n)) (h : wpR P ops (Cw w) Q rest (upd A dst (Is1 u))) :
    wpR P ops (Cw w) Q (⟨dst, o, ty, pos, after, guard⟩ :: rest) A := by
  refine ⟨Is1 u, gives_run hy fun a ha n => ⟨u, n, hrun a.eval n ?_, rfl⟩, h⟩
  have := fits_eval ha x; rw [hx] at this; exact this
theorem wpR_two {o : Op} {v v' u : Value} (x y : Operand) (hy : Yes ops A ⟨dst, o, ty, pos, after, guard⟩) (hx : slotS A x = Is1 v) (hx' : slotS A y = Is1 v')
    (hrun : ∀ (ρ : Operand → Value) (n : Nat), ρ x = v → ρ y = v' → (execOp ρ ⟨dst, o, ty, pos, after, guard⟩).run P (w.drewN n) = .ok (.value u) (w.drewN n)) (h : wpR P ops (Cw w) Q rest (upd A dst (Is1 u))) :
    wpR P ops (Cw w) Q (⟨dst, o, ty, pos, after, guard⟩ :: rest) A := by
  refine ⟨Is1 u, gives_run hy fun a ha n => ⟨u, n, hrun a.eval n ?_ ?_, rfl⟩, h⟩
  · have := fits_eval ha x; rw [hx] at this; exact this
  · have := fits_eval ha y; rw [hx'] at this; exact this

theorem wpR_indexAddr {v v' u : Value} (hy : Yes ops A ⟨dst, .indexAddr t x y, ty, pos, after, guard⟩) (hx : slotS A x = Is1 v) (hx' : slotS A y = Is1 v')
    (hrun : ∀ (ρ : Operand → Value) (n : Nat), ρ x = v → ρ y = v' → (execOp ρ ⟨dst, .indexAddr t x y, ty, pos, after, guard⟩).run P (w.drewN n) = .ok (.value u) (w.drewN n)) (h : wpR P ops (Cw w) Q rest (upd A dst (Is1 u))) :
    wpR P ops (Cw w) Q (⟨dst, .indexAddr t x y, ty, pos, after, guard⟩ :: rest) A := wpR_two x y hy hx hx' hrun h
theorem wpR_binOp {bo : BinOp} {v v' u : Value} (hy : Yes ops A ⟨dst, .binOp bo t x y t', ty, pos, after, guard⟩) (hx : slotS A x = Is1 v) (hx' : slotS A y = Is1 v')
    (hrun : ∀ (ρ : Operand → Value) (n : Nat), ρ x = v → ρ y = v' → (execOp ρ ⟨dst, .binOp bo t x y t', ty, pos, after, guard⟩).run P (w.drewN n) = .ok (.value u) (w.drewN n)) (h : wpR P ops (Cw w) Q rest (upd A dst (Is1 u))) :
    wpR P ops (Cw w) Q (⟨dst, .binOp bo t x y t', ty, pos, after, guard⟩ :: rest) A := wpR_two x y hy hx hx' hrun h
theorem wpR_load {v u : Value} (hy : Yes ops A ⟨dst, .load t x, ty, pos, after, guard⟩) (hx : slotS A x = Is1 v)
    (hrun : ∀ (ρ : Operand → Value) (n : Nat), ρ x = v → (execOp ρ ⟨dst, .load t x, ty, pos, after, guard⟩).run P (w.drewN n) = .ok (.value u) (w.drewN n)) (h : wpR P ops (Cw w) Q rest (upd A dst (Is1 u))) :
    wpR P ops (Cw w) Q (⟨dst, .load t x, ty, pos, after, guard⟩ :: rest) A := wpR_one x hy hx hrun h
theorem wpR_unOp {uo : UnOp} {v u : Value} (hy : Yes ops A ⟨dst, .unOp uo t x, ty, pos, after, guard⟩) (hx : slotS A x = Is1 v)
    (hrun : ∀ (ρ : Operand → Value) (n : Nat), ρ x = v → (execOp ρ ⟨dst, .unOp uo t x, ty, pos, after, guard⟩).run P (w.drewN n) = .ok (.value u) (w.drewN n)) (h : wpR P ops (Cw w) Q rest (upd A dst (Is1 u))) :
    wpR P ops (Cw w) Q (⟨dst, .unOp uo t x, ty, pos, after, guard⟩ :: rest) A := wpR_one x hy hx hrun h
theorem wpR_convert {v u : Value} (hy : Yes ops A ⟨dst, .convert t t' x, ty, pos, after, guard⟩) (hx : slotS A x = Is1 v)
    (hrun : ∀ (ρ : Operand → Value) (n : Nat), ρ x = v → (execOp ρ ⟨dst, .convert t t' x, ty, pos, after, guard⟩).run P (w.drewN n) = .ok (.value u) (w.drewN n)) (h : wpR P ops (Cw w) Q rest (upd A dst (Is1 u))) :
    wpR P ops (Cw w) Q (⟨dst, .convert t t' x, ty, pos, after, guard⟩ :: rest) A := wpR_one x hy hx hrun h
theorem wpR_field {fi : Nat} {v u : Value} (hy : Yes ops A ⟨dst, .field t x fi, ty, pos, after, guard⟩) (hx : slotS A x = Is1 v)
    (hrun : ∀ (ρ : Operand → Value) (n : Nat), ρ x = v → (execOp ρ ⟨dst, .field t x fi, ty, pos, after, guard⟩).run P (w.drewN n) = .ok (.value u) (w.drewN n)) (h : wpR P ops (Cw w) Q rest (upd A dst (Is1 u))) :
    wpR P ops (Cw w) Q (⟨dst, .field t x fi, ty, pos, after, guard⟩ :: rest) A := wpR_one x hy hx hrun h
theorem wpR_fieldAddr {fi : Nat} {v u : Value} (hy : Yes ops A ⟨dst, .fieldAddr t x fi, ty, pos, after, guard⟩) (hx : slotS A x = Is1 v)
    (hrun : ∀ (ρ : Operand → Value) (n : Nat), ρ x = v → (execOp ρ ⟨dst, .fieldAddr t x fi, ty, pos, after, guard⟩).run P (w.drewN n) = .ok (.value u) (w.drewN n)) (h : wpR P ops (Cw w) Q rest (upd A dst (Is1 u))) :
    wpR P ops (Cw w) Q (⟨dst, .fieldAddr t x fi, ty, pos, after, guard⟩ :: rest) A := wpR_one x hy hx hrun h
theorem wpR_nilCheck {v u : Value} (hy : Yes ops A ⟨dst, .nilCheck x, ty, pos, after, guard⟩) (hx : slotS A x = Is1 v)
    (hrun : ∀ (ρ : Operand → Value) (n : Nat), ρ x = v → (execOp ρ ⟨dst, .nilCheck x, ty, pos, after, guard⟩).run P (w.drewN n) = .ok (.value u) (w.drewN n)) (h : wpR P ops (Cw w) Q rest (upd A dst (Is1 u))) :
    wpR P ops (Cw w) Q (⟨dst, .nilCheck x, ty, pos, after, guard⟩ :: rest) A := wpR_one x hy hx hrun h
theorem wpR_builtin1 {bi : Builtin} {ats : Array TypeId} {v u : Value} (hy : Yes ops A ⟨dst, .call { callee := .builtin bi, args := #[x], argTypes := ats }, ty, pos, after, guard⟩) (hx : slotS A x = Is1 v)
    (hrun : ∀ (ρ : Operand → Value) (n : Nat), ρ x = v → (execOp ρ ⟨dst, .call { callee := .builtin bi, args := #[x], argTypes := ats }, ty, pos, after, guard⟩).run P (w.drewN n) = .ok (.value u) (w.drewN n)) (h : wpR P ops (Cw w) Q rest (upd A dst (Is1 u))) :
    wpR P ops (Cw w) Q (⟨dst, .call { callee := .builtin bi, args := #[x], argTypes := ats }, ty, pos, after, guard⟩ :: rest) A := wpR_one x hy hx hrun h

/-- a call of a named function: two arguments, one -/
theorem wpR_call2 {f : FuncId} {ats : Array TypeId} {S T V : Value → Prop} (hin : ∀ (xs : Array Value) (w' : World), (callFunc f xs).run P w' = .ok (.enter f xs) w')
    (hy : Yes ops A ⟨dst, .call { callee := .value (.func f), args := #[x, y], argTypes := ats }, ty, pos, after, guard⟩) (hS : slotS A x = S) (hT : slotS A y = T)
    (hcall : ∀ u v n, S u → T v → Calls P f #[u, v] (w.drewN n) fun e w'' => ∃ r, e = .returned r ∧ V r ∧ ∃ m, w'' = w.drewN m) (h : wpR P ops (Cw w) Q rest (upd A dst V)) :
    wpR P ops (Cw w) Q (⟨dst, .call { callee := .value (.func f), args := #[x, y], argTypes := ats }, ty, pos, after, guard⟩ :: rest) A := by
  subst hS; subst hT
  refine ⟨_, ?_, h⟩
  intro a ha
  rw [hy a ha]
  refine ⟨fun _ w' hw' => ?_, fun h => by cases h⟩
  obtain ⟨n, rfl⟩ := hw'
  rw [execOp_call_go]
  have e : (#[] ++ Array.map a.eval #[x, y] ++ #[] : Array Value) = #[a.eval x, a.eval y] := by simp
  rw [e, hin]
  exact hcall _ _ n (fits_eval ha x) (fits_eval ha y)
theorem wpR_call1 {f : FuncId} {ats : Array TypeId} {S V : Value → Prop} (hin : ∀ (xs : Array Value) (w' : World), (callFunc f xs).run P w' = .ok (.enter f xs) w')
    (hy : Yes ops A ⟨dst, .call { callee := .value (.func f), args := #[x], argTypes := ats }, ty, pos, after, guard⟩) (hS : slotS A x = S)
    (hcall : ∀ u n, S u → Calls P f #[u] (w.drewN n) fun e w'' => ∃ r, e = .returned r ∧ V r ∧ ∃ m, w'' = w.drewN m) (h : wpR P ops (Cw w) Q rest (upd A dst V)) :
    wpR P ops (Cw w) Q (⟨dst, .call { callee := .value (.func f), args := #[x], argTypes := ats }, ty, pos, after, guard⟩ :: rest) A := by
  subst hS
  refine ⟨_, ?_, h⟩
  intro a ha
  rw [hy a ha]
  refine ⟨fun _ w' hw' => ?_, fun h => by cases h⟩
  obtain ⟨n, rfl⟩ := hw'
  rw [execOp_call_go]
  have e : (#[] ++ Array.map a.eval #[x] ++ #[] : Array Value) = #[a.eval x] := by simp
  rw [e, hin]
  exact hcall _ n (fits_eval ha x)

theorem enters {f : FuncId} {fn : Func} (hf : P.funcs[f]? = some fn) (h1 : (fn.name == "runtime.NumGoroutine") = false) (h2 : fn.body.isNone = false) (xs : Array Value) (w' : World) :
    (callFunc f xs).run P w' = .ok (.enter f xs) w' := by
  have h1' : fn.name ≠ "runtime.NumGoroutine" := by simpa using h1
  have h2' : ¬ fn.body = none := by intro e; rw [e] at h2; simp at h2
  simp [callFunc, hf, h1', h2']

theorem of_vret {f : FuncId} {args : Array Value} {n : Nat} {v : Value} {V : Value → Prop} (h : Calls P f args (w.drewN n) (VRet v (w.drewN n))) (hv : V v) :
    Calls P f args (w.drewN n) fun e w'' => ∃ r, e = .returned r ∧ V r ∧ ∃ m, w'' = w.drewN m := by
  refine h.mono ?_
  rintro e w'' ⟨h3, m, h4⟩
  exact ⟨_, h3, hv, n + m, by rw [h4, World.drewN_drewN]⟩
theorem of_fret {f : FuncId} {args : Array Value} {n : Nat} {k : FloatKind} {X : Nat} (h : Calls P f args (w.drewN n) (FRet k X (w.drewN n))) :
    Calls P f args (w.drewN n) fun e w'' => ∃ r, e = .returned r ∧ IsF k X r ∧ ∃ m, w'' = w.drewN m := by
  refine h.mono ?_
  rintro e w'' ⟨r, h3, hr, m, h4⟩
  exact ⟨_, h3, ⟨r, rfl, hr⟩, n + m, by rw [h4, World.drewN_drewN]⟩

/-! ### behind the region -/
inductive All2 : Known → List Value → Prop
  | nil : All2 [] []
  | cons {S : Value → Prop} {v : Value} {A : Known} {l : List Value} (h : S v) (r : All2 A l) : All2 (S :: A) (v :: l)

theorem all2_of : ∀ (A : Known) (l : List Value), A.length = l.length → (∀ (t : Nat) (S : Value → Prop) (v : Value), A[t]? = some S → l[t]? = some v → S v) → All2 A l
  | [], [], _, _ => .nil
  | [], _ :: _, h, _ => by cases h
  | _ :: _, [], h, _ => by cases h
  | S :: A, v :: l, h, H => .cons (H 0 S v rfl rfl) (all2_of A l (by simpa using h) fun t S' v' h1 h2 => H (t + 1) S' v' (by simpa using h1) (by simpa using h2))

theorem wpR_end {Q' : Exit → Act → World → Prop} {D : List Deferred} (h : ∀ n l, All2 A l → Q' .normal ⟨l.toArray, D⟩ (w.drewN n)) :
    wpR P ops (Cw w) (fun A' => ∀ a' n, Fits A' a' → a'.defers = D → Q' .normal a' (w.drewN n)) [] A := by
  intro a' n ha hd
  obtain ⟨tmps, defers⟩ := a'
  cases hd
  have := h n tmps.toList (all2_of _ _ (by simpa using ha.1) fun t S v h1 h2 => ha.2 t S v h1 (by simpa using h2))
  simpa using this

theorem all2_is1 {G : List Value → Prop} {c : Value} (h : ∀ l, All2 A l → G (c :: l)) : ∀ l, All2 (Is1 c :: A) l → G l := by
  intro l hl
  cases hl with
  | cons h1 r => cases h1; exact h _ r
theorem all2_isF {G : List Value → Prop} {k : FloatKind} {X : Nat} (h : ∀ b, Is k b X → ∀ l, All2 A l → G (.float k b :: l)) : ∀ l, All2 (IsF k X :: A) l → G l := by
  intro l hl
  cases hl with
  | cons h1 r => obtain ⟨b, rfl, hb⟩ := h1; exact h b hb _ r
theorem all2_nil {G : List Value → Prop} (h : G []) : ∀ l, All2 [] l → G l := by
  intro l hl
  cases hl; exact h
end
end Go.Rg
