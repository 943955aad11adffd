/-
  THE STEPS OF THE WALK THROUGH A REGION WHOSE WORLDS MAY GROW, slot by slot as sets that a growing world only widens. (No program here.)
-/
import Derived.Test.YtianaalokclklaaDoorRk
set_option linter.unusedVariables false
set_option linter.unusedSimpArgs false
namespace Go.Rk
open Go Go.Fl

structure Good (Le : World → World → Prop) : Prop where
  refl : ∀ w, Le w w
  trans : ∀ a b c, Le a b → Le b c → Le a c
  draw : ∀ w n, Le w (w.drewN n)
  alloc : ∀ w o, Le w (w.alloc o)

theorem good_bel : Good Bel := ⟨Bel.refl, fun _ _ _ h k => h.trans k, fun w n => (Bel.refl w).drewN n, fun w o => (Bel.refl w).alloc o⟩

theorem mon_is1 {Le : World → World → Prop} (v : Value) : Mon Le (Is1 v) := fun _ _ _ _ h => h
theorem mon_isF {Le : World → World → Prop} (k : FloatKind) (X : Nat) : Mon Le (IsF k X) := fun _ _ _ _ h => h

def slotS (A : Known) : Operand → KSet
  | .tmp t => A.getD t (Is1 undef)
  | .const v => Is1 v
  | .global g => Is1 (.pointer (some ⟨g, 0, none⟩))
  | .func f => Is1 (.func (.func f) #[] #[])

theorem fits_eval {L : List Tmp} {A : Known} {w : World} {a : Act} (h : FitsOn L A w a) (x : Operand) (hx : ∀ t, x = .tmp t → t ∈ L) : slotS A x w (a.eval x) := by
  cases x with
  | tmp t =>
    show (A.getD t (Is1 undef)) w (a.tmps.getD t undef)
    rw [List.getD_eq_getElem?_getD, Array.getD_eq_getD_getElem?]
    cases hS : A[t]? with
    | none =>
      have : a.tmps[t]? = none := by
        rw [List.getElem?_eq_none_iff] at hS
        rw [Array.getElem?_eq_none_iff, ← h.1]; exact hS
      rw [this]; rfl
    | some S =>
      have hlt := (List.getElem?_eq_some_iff.1 hS).1
      cases hv : a.tmps[t]? with
      | none => rw [Array.getElem?_eq_none_iff, ← h.1] at hv; omega
      | some v => exact h.2 t (hx t rfl) S v hS hv
  | const v => rfl
  | global g => rfl
  | func f => rfl

theorem looks_op {ops : Array Oper} {o : Oper} {x : Operand} (hx : x ∈ o.op.operands.toList) : ∀ t, x = .tmp t → t ∈ o.looksAt ops := by
  rintro t rfl
  unfold Oper.looksAt
  exact List.mem_append_left _ (List.mem_filterMap.2 ⟨.tmp t, hx, rfl⟩)

section
variable {P : Program} {ops : Array Oper} {Le : World → World → Prop} {W : World} {Q : Known → Prop} {rest : List Oper} {A : Known} {dst : Option Tmp} {ty : TypeId} {pos : String} {after : Array Edge} {guard : Option (Nat × Bool)} {x y z x2 x3 x4 : Operand} {t t' : TypeId}

/-- the guard says yes in every frame that is as is known -/
def Yes (ops : Array Oper) (A : Known) (o : Oper) : Prop := ∀ w a, FitsOn (o.looksAt ops) A w a → Region.wanted o (yielded ops a.tmps) = true

theorem yes_none {o : Op} : Yes ops A ⟨dst, o, ty, pos, after, none⟩ := fun _ _ _ => rfl
theorem guard_is {L : List Tmp} {j d : Nat} {c : Bool} (h1 : (ops[j]?).bind (·.dst) = some d) (h2 : A[d]? = some (Is1 (.bool c))) {w : World} {a : Act} (hL : d ∈ L) (ha : FitsOn L A w a) : yielded ops a.tmps j = some c := by
  unfold yielded
  rw [h1]
  have hlt := (List.getElem?_eq_some_iff.1 h2).1
  cases hv : a.tmps[d]? with
  | none => rw [Array.getElem?_eq_none_iff, ← ha.1] at hv; omega
  | some v =>
    have := ha.2 d hL _ v h2 hv
    show (match a.tmps[d]? with | some (.bool b) => some b | _ => none) = some c
    rw [hv]
    have e : v = .bool c := this
    rw [e]
theorem looks_guard {o : Op} {j d : Nat} {b : Bool} (h1 : (ops[j]?).bind (·.dst) = some d) : d ∈ (⟨dst, o, ty, pos, after, some (j, b)⟩ : Oper).looksAt ops := by
  unfold Oper.looksAt
  refine List.mem_append_right _ ?_
  simp only [h1]
  exact List.mem_singleton.2 rfl
theorem yes_some {o : Op} {j d : Nat} {b : Bool} (h1 : (ops[j]?).bind (·.dst) = some d) (h2 : A[d]? = some (Is1 (.bool b))) : Yes ops A ⟨dst, o, ty, pos, after, some (j, b)⟩ := by
  intro w a ha
  show (yielded ops a.tmps j == some b) = true
  rw [guard_is h1 h2 (looks_guard h1) ha]; simp

theorem wpR_skip {o : Op} {j d : Nat} {b c : Bool} (h1 : (ops[j]?).bind (·.dst) = some d) (h2 : A[d]? = some (Is1 (.bool c))) (hne : (c == b) = false)
    (h : wpR P ops Le W Q rest (upd A dst (Is1 undef))) : wpR P ops Le W Q (⟨dst, o, ty, pos, after, some (j, b)⟩ :: rest) A := by
  refine ⟨_, mon_is1 _, ?_, h⟩
  intro w hw a ha
  have e : Region.wanted ⟨dst, o, ty, pos, after, some (j, b)⟩ (yielded ops a.tmps) = false := by
    show (yielded ops a.tmps j == some b) = false
    rw [guard_is h1 h2 (looks_guard h1) ha]; simpa using hne
  rw [e]
  exact ⟨fun h => (by cases h), fun _ => rfl⟩

theorem gives_run {o : Oper} {V : KSet} (hy : Yes ops A o) (h : ∀ w, Le W w → ∀ a, FitsOn (o.looksAt ops) A w a → ∃ u w', (execOp a.eval o).run P w = .ok (.value u) w' ∧ Le w w' ∧ V w' u) : Gives P ops Le W o A V := by
  intro w hw a ha
  rw [hy w a ha]
  refine ⟨fun _ => ?_, fun h => by cases h⟩
  obtain ⟨u, w', h1, h2, h3⟩ := h w hw a ha
  rw [h1]
  exact ⟨h2, h3⟩

theorem wpR_move (hL : Good Le) (hy : Yes ops A ⟨dst, .move x, ty, pos, after, guard⟩) {S : KSet} (hm : Mon Le S) (hS : slotS A x = S) (h : wpR P ops Le W Q rest (upd A dst S)) :
    wpR P ops Le W Q (⟨dst, .move x, ty, pos, after, guard⟩ :: rest) A := by
  subst hS
  exact ⟨_, hm, gives_run hy fun w hw a ha => ⟨_, w, rfl, hL.refl _, fits_eval ha x (looks_op (by simp [Op.operands]))⟩, h⟩
theorem wpR_assign (hL : Good Le) (hy : Yes ops A ⟨dst, .assign x, ty, pos, after, guard⟩) {S : KSet} (hm : Mon Le S) (hS : slotS A x = S) (h : wpR P ops Le W Q rest (upd A dst S)) :
    wpR P ops Le W Q (⟨dst, .assign x, ty, pos, after, guard⟩ :: rest) A := by
  subst hS
  exact ⟨_, hm, gives_run hy fun w hw a ha => ⟨_, w, rfl, hL.refl _, fits_eval ha x (looks_op (by simp [Op.operands]))⟩, h⟩
theorem wpR_pickT (hL : Good Le) (hy : Yes ops A ⟨dst, .pick x y z, ty, pos, after, guard⟩) {S : KSet} (hm : Mon Le S) (hc : slotS A x = Is1 (.bool true)) (hS : slotS A y = S)
    (h : wpR P ops Le W Q rest (upd A dst S)) : wpR P ops Le W Q (⟨dst, .pick x y z, ty, pos, after, guard⟩ :: rest) A := by
  subst hS
  refine ⟨_, hm, gives_run hy fun w hw a ha => ⟨a.eval y, w, ?_, hL.refl _, fits_eval ha _ (looks_op (by simp [Op.operands]))⟩, h⟩
  have e : a.eval x = .bool true := by have := fits_eval ha x (looks_op (by simp [Op.operands])); rw [hc] at this; exact this
  simp [execOp, e, asBool]
theorem wpR_pickF (hL : Good Le) (hy : Yes ops A ⟨dst, .pick x y z, ty, pos, after, guard⟩) {S : KSet} (hm : Mon Le S) (hc : slotS A x = Is1 (.bool false)) (hS : slotS A z = S)
    (h : wpR P ops Le W Q rest (upd A dst S)) : wpR P ops Le W Q (⟨dst, .pick x y z, ty, pos, after, guard⟩ :: rest) A := by
  subst hS
  refine ⟨_, hm, gives_run hy fun w hw a ha => ⟨a.eval z, w, ?_, hL.refl _, fits_eval ha _ (looks_op (by simp [Op.operands]))⟩, h⟩
  have e : a.eval x = .bool false := by have := fits_eval ha x (looks_op (by simp [Op.operands])); rw [hc] at this; exact this
  simp [execOp, e, asBool]

/-- a set of words for 'X' -/
def SubF (S : KSet) (k : FloatKind) (X : Nat) : Prop := ∀ w v, S w v → ∃ b, v = .float k b ∧ Is k b X
theorem subF_is (k : FloatKind) (X : Nat) : SubF (IsF k X) k X := fun _ v h => h
theorem subF_eq {k : FloatKind} {b X : Nat} (h : Is k b X) : SubF (Is1 (.float k b)) k X := fun _ v hv => ⟨b, hv, h⟩
theorem sub_eval {L : List Tmp} {S : KSet} {k : FloatKind} {X : Nat} {w : World} {a : Act} (ha : FitsOn L A w a) (hx : ∀ t, x = .tmp t → t ∈ L) (hS : slotS A x = S) (h : SubF S k X) : ∃ b, a.eval x = .float k b ∧ Is k b X := by
  subst hS; exact h _ _ (fits_eval ha x hx)

theorem wpR_fop (hL : Good Le) {op : BinOp} (hop : op = .add ∨ op = .sub ∨ op = .mul ∨ op = .quo) {k : FloatKind} {X Y : Nat} {S T : KSet} (hy : Yes ops A ⟨dst, .binOp op t x y t', ty, pos, after, guard⟩)
    (hS : slotS A x = S) (hT : slotS A y = T) (hX : SubF S k X) (hY : SubF T k Y) (h : wpR P ops Le W Q rest (upd A dst (IsF k (fop op k X Y)))) :
    wpR P ops Le W Q (⟨dst, .binOp op t x y t', ty, pos, after, guard⟩ :: rest) A := by
  refine ⟨_, mon_isF _ _, gives_run hy fun w hw a ha => ?_, h⟩
  obtain ⟨b, e1, h1⟩ := sub_eval ha (looks_op (by simp [Op.operands])) hS hX
  obtain ⟨c, e2, h2⟩ := sub_eval ha (looks_op (by simp [Op.operands])) hT hY
  obtain ⟨r, m, hrun, hr⟩ := run_fop (P := P) w op hop t k b c
  rw [h1.2, h2.2] at hr
  exact ⟨_, _, run_exec_binOp e1 e2 hrun, hL.draw _ _, r, rfl, hr⟩
theorem wpR_fadd (hL : Good Le) {k : FloatKind} {X Y : Nat} {S T : KSet} (hy : Yes ops A ⟨dst, .binOp .add t x y t', ty, pos, after, guard⟩)
    (hS : slotS A x = S) (hT : slotS A y = T) (hX : SubF S k X) (hY : SubF T k Y) (h : wpR P ops Le W Q rest (upd A dst (IsF k (fop .add k X Y)))) :
    wpR P ops Le W Q (⟨dst, .binOp .add t x y t', ty, pos, after, guard⟩ :: rest) A := wpR_fop hL (by simp) hy hS hT hX hY h
theorem wpR_fsub (hL : Good Le) {k : FloatKind} {X Y : Nat} {S T : KSet} (hy : Yes ops A ⟨dst, .binOp .sub t x y t', ty, pos, after, guard⟩)
    (hS : slotS A x = S) (hT : slotS A y = T) (hX : SubF S k X) (hY : SubF T k Y) (h : wpR P ops Le W Q rest (upd A dst (IsF k (fop .sub k X Y)))) :
    wpR P ops Le W Q (⟨dst, .binOp .sub t x y t', ty, pos, after, guard⟩ :: rest) A := wpR_fop hL (by simp) hy hS hT hX hY h
theorem wpR_fmul (hL : Good Le) {k : FloatKind} {X Y : Nat} {S T : KSet} (hy : Yes ops A ⟨dst, .binOp .mul t x y t', ty, pos, after, guard⟩)
    (hS : slotS A x = S) (hT : slotS A y = T) (hX : SubF S k X) (hY : SubF T k Y) (h : wpR P ops Le W Q rest (upd A dst (IsF k (fop .mul k X Y)))) :
    wpR P ops Le W Q (⟨dst, .binOp .mul t x y t', ty, pos, after, guard⟩ :: rest) A := wpR_fop hL (by simp) hy hS hT hX hY h
theorem wpR_fquo (hL : Good Le) {k : FloatKind} {X Y : Nat} {S T : KSet} (hy : Yes ops A ⟨dst, .binOp .quo t x y t', ty, pos, after, guard⟩)
    (hS : slotS A x = S) (hT : slotS A y = T) (hX : SubF S k X) (hY : SubF T k Y) (h : wpR P ops Le W Q rest (upd A dst (IsF k (fop .quo k X Y)))) :
    wpR P ops Le W Q (⟨dst, .binOp .quo t x y t', ty, pos, after, guard⟩ :: rest) A := wpR_fop hL (by simp) hy hS hT hX hY h
theorem wpR_cmp (hL : Good Le) {op : BinOp} {k : FloatKind} {X Y : Nat} {S T : KSet} {c : Bool} (hc : ∀ b d, Is k b X → Is k d Y → binOp op t (.float k b) (.float k d) = pure (.bool c))
    (hy : Yes ops A ⟨dst, .binOp op t x y t', ty, pos, after, guard⟩)
    (hS : slotS A x = S) (hT : slotS A y = T) (hX : SubF S k X) (hY : SubF T k Y) (h : wpR P ops Le W Q rest (upd A dst (Is1 (.bool c)))) :
    wpR P ops Le W Q (⟨dst, .binOp op t x y t', ty, pos, after, guard⟩ :: rest) A := by
  refine ⟨_, mon_is1 _, gives_run hy fun w hw a ha => ?_, h⟩
  obtain ⟨b, e1, h1⟩ := sub_eval ha (looks_op (by simp [Op.operands])) hS hX
  obtain ⟨d, e2, h2⟩ := sub_eval ha (looks_op (by simp [Op.operands])) hT hY
  exact ⟨_, w, run_exec_binOp e1 e2 (by rw [hc b d h1 h2]; rfl), hL.refl _, rfl⟩
theorem wpR_feq (hL : Good Le) {k : FloatKind} {X Y : Nat} {S T : KSet} (hy : Yes ops A ⟨dst, .binOp .eql t x y t', ty, pos, after, guard⟩)
    (hS : slotS A x = S) (hT : slotS A y = T) (hX : SubF S k X) (hY : SubF T k Y) (h : wpR P ops Le W Q rest (upd A dst (Is1 (.bool (feq k X Y))))) :
    wpR P ops Le W Q (⟨dst, .binOp .eql t x y t', ty, pos, after, guard⟩ :: rest) A :=
  wpR_cmp hL (fun b d h1 h2 => by rw [binOp_float_cmp_eql, ord_is h1 h2]; unfold feq; rfl) hy hS hT hX hY h
theorem wpR_fne (hL : Good Le) {k : FloatKind} {X Y : Nat} {S T : KSet} (hy : Yes ops A ⟨dst, .binOp .neq t x y t', ty, pos, after, guard⟩)
    (hS : slotS A x = S) (hT : slotS A y = T) (hX : SubF S k X) (hY : SubF T k Y) (h : wpR P ops Le W Q rest (upd A dst (Is1 (.bool (fne k X Y))))) :
    wpR P ops Le W Q (⟨dst, .binOp .neq t x y t', ty, pos, after, guard⟩ :: rest) A :=
  wpR_cmp hL (fun b d h1 h2 => by rw [binOp_float_cmp_neq, ord_is h1 h2]; unfold fne; rfl) hy hS hT hX hY h
theorem wpR_flt (hL : Good Le) {k : FloatKind} {X Y : Nat} {S T : KSet} (hy : Yes ops A ⟨dst, .binOp .lss t x y t', ty, pos, after, guard⟩)
    (hS : slotS A x = S) (hT : slotS A y = T) (hX : SubF S k X) (hY : SubF T k Y) (h : wpR P ops Le W Q rest (upd A dst (Is1 (.bool (flt k X Y))))) :
    wpR P ops Le W Q (⟨dst, .binOp .lss t x y t', ty, pos, after, guard⟩ :: rest) A :=
  wpR_cmp hL (fun b d h1 h2 => by rw [binOp_float_cmp_lss, ord_is h1 h2]; unfold flt; rfl) hy hS hT hX hY h
theorem wpR_fgt (hL : Good Le) {k : FloatKind} {X Y : Nat} {S T : KSet} (hy : Yes ops A ⟨dst, .binOp .gtr t x y t', ty, pos, after, guard⟩)
    (hS : slotS A x = S) (hT : slotS A y = T) (hX : SubF S k X) (hY : SubF T k Y) (h : wpR P ops Le W Q rest (upd A dst (Is1 (.bool (fgt k X Y))))) :
    wpR P ops Le W Q (⟨dst, .binOp .gtr t x y t', ty, pos, after, guard⟩ :: rest) A :=
  wpR_cmp hL (fun b d h1 h2 => by rw [binOp_float_cmp_gtr, ord_is h1 h2]; unfold fgt; rfl) hy hS hT hX hY h
theorem wpR_fge (hL : Good Le) {k : FloatKind} {X Y : Nat} {S T : KSet} (hy : Yes ops A ⟨dst, .binOp .geq t x y t', ty, pos, after, guard⟩)
    (hS : slotS A x = S) (hT : slotS A y = T) (hX : SubF S k X) (hY : SubF T k Y) (h : wpR P ops Le W Q rest (upd A dst (Is1 (.bool (fge k X Y))))) :
    wpR P ops Le W Q (⟨dst, .binOp .geq t x y t', ty, pos, after, guard⟩ :: rest) A :=
  wpR_cmp hL (fun b d h1 h2 => by rw [binOp_float_cmp_geq, ord_is h1 h2]; unfold fge; rfl) hy hS hT hX hY h
theorem wpR_fle (hL : Good Le) {k : FloatKind} {X Y : Nat} {S T : KSet} (hy : Yes ops A ⟨dst, .binOp .leq t x y t', ty, pos, after, guard⟩)
    (hS : slotS A x = S) (hT : slotS A y = T) (hX : SubF S k X) (hY : SubF T k Y) (h : wpR P ops Le W Q rest (upd A dst (Is1 (.bool (fle k X Y))))) :
    wpR P ops Le W Q (⟨dst, .binOp .leq t x y t', ty, pos, after, guard⟩ :: rest) A :=
  wpR_cmp hL (fun b d h1 h2 => by rw [binOp_float_cmp_leq, ord_is h1 h2]; unfold fle; rfl) hy hS hT hX hY h

theorem wpR_widen (hL : Good Le) {src d : TypeId} {us : TypeDesc} (hs : P.underlying src = some us) (hd : P.underlying d = some (.float .f64)) {X : Nat} {S : KSet}
    (hy : Yes ops A ⟨dst, .convert src d x, ty, pos, after, guard⟩) (hS : slotS A x = S) (hX : SubF S .f32 X) (h : wpR P ops Le W Q rest (upd A dst (IsF .f64 (wid X)))) :
    wpR P ops Le W Q (⟨dst, .convert src d x, ty, pos, after, guard⟩ :: rest) A := by
  refine ⟨_, mon_isF _ _, gives_run hy fun w hw a ha => ?_, h⟩
  obtain ⟨b, e1, h1⟩ := sub_eval ha (looks_op (by simp [Op.operands])) hS hX
  obtain ⟨r, m, hrun, hr⟩ := run_conv (P := P) w src d .f32 .f64 (by decide) hs hd b (widen_ok h1.1)
  rw [h1.2] at hr
  refine ⟨.float .f64 r, w.drewN m, ?_, hL.draw _ _, r, rfl, ?_⟩
  · simp [execOp, e1, hrun]
  · unfold wid; exact hr

/-- any operation all of whose operands are known outright: none, one operand, two -/
theorem wpR_one (hL : Good Le) {o : Op} {v u : Value} (x : Operand) (hmem : x ∈ o.operands.toList) (hy : Yes ops A ⟨dst, o, ty, pos, after, guard⟩) (hx : slotS A x = Is1 v)
    (hrun : ∀ (ρ : Operand → Value) (w : World), Le W w → ρ x = v → (execOp ρ ⟨dst, o, ty, pos, after, guard⟩).run P w = .ok (.value u) w) (h : wpR P ops Le W Q rest (upd A dst (Is1 u))) :
    wpR P ops Le W Q (⟨dst, o, ty, pos, after, guard⟩ :: rest) A := by
  refine ⟨Is1 u, mon_is1 _, gives_run hy fun w hw a ha => ⟨u, w, hrun a.eval w hw ?_, hL.refl _, rfl⟩, h⟩
  have := fits_eval ha x (looks_op hmem); rw [hx] at this; exact this
theorem wpR_two (hL : Good Le) {o : Op} {v v' u : Value} (x y : Operand) (hmem : x ∈ o.operands.toList) (hmem' : y ∈ o.operands.toList) (hy : Yes ops A ⟨dst, o, ty, pos, after, guard⟩) (hx : slotS A x = Is1 v) (hx' : slotS A y = Is1 v')
    (hrun : ∀ (ρ : Operand → Value) (w : World), Le W w → ρ x = v → ρ y = v' → (execOp ρ ⟨dst, o, ty, pos, after, guard⟩).run P w = .ok (.value u) w) (h : wpR P ops Le W Q rest (upd A dst (Is1 u))) :
    wpR P ops Le W Q (⟨dst, o, ty, pos, after, guard⟩ :: rest) A := by
  refine ⟨Is1 u, mon_is1 _, gives_run hy fun w hw a ha => ⟨u, w, hrun a.eval w hw ?_ ?_, hL.refl _, rfl⟩, h⟩
  · have := fits_eval ha x (looks_op hmem); rw [hx] at this; exact this
  · have := fits_eval ha y (looks_op hmem'); rw [hx'] at this; exact this

theorem wpR_indexAddr (hL : Good Le) {v v' u : Value} (hy : Yes ops A ⟨dst, .indexAddr t x y, ty, pos, after, guard⟩) (hx : slotS A x = Is1 v) (hx' : slotS A y = Is1 v')
    (hrun : ∀ (ρ : Operand → Value) (w : World), Le W w → ρ x = v → ρ y = v' → (execOp ρ ⟨dst, .indexAddr t x y, ty, pos, after, guard⟩).run P w = .ok (.value u) w) (h : wpR P ops Le W Q rest (upd A dst (Is1 u))) :
    wpR P ops Le W Q (⟨dst, .indexAddr t x y, ty, pos, after, guard⟩ :: rest) A := wpR_two hL x y (by simp [Op.operands]) (by simp [Op.operands]) hy hx hx' hrun h
theorem wpR_binOp (hL : Good Le) {bo : BinOp} {v v' u : Value} (hy : Yes ops A ⟨dst, .binOp bo t x y t', ty, pos, after, guard⟩) (hx : slotS A x = Is1 v) (hx' : slotS A y = Is1 v')
    (hrun : ∀ (ρ : Operand → Value) (w : World), Le W w → ρ x = v → ρ y = v' → (execOp ρ ⟨dst, .binOp bo t x y t', ty, pos, after, guard⟩).run P w = .ok (.value u) w) (h : wpR P ops Le W Q rest (upd A dst (Is1 u))) :
    wpR P ops Le W Q (⟨dst, .binOp bo t x y t', ty, pos, after, guard⟩ :: rest) A := wpR_two hL x y (by simp [Op.operands]) (by simp [Op.operands]) hy hx hx' hrun h
theorem wpR_load (hL : Good Le) {v u : Value} (hy : Yes ops A ⟨dst, .load t x, ty, pos, after, guard⟩) (hx : slotS A x = Is1 v)
    (hrun : ∀ (ρ : Operand → Value) (w : World), Le W w → ρ x = v → (execOp ρ ⟨dst, .load t x, ty, pos, after, guard⟩).run P w = .ok (.value u) w) (h : wpR P ops Le W Q rest (upd A dst (Is1 u))) :
    wpR P ops Le W Q (⟨dst, .load t x, ty, pos, after, guard⟩ :: rest) A := wpR_one hL x (by simp [Op.operands, Call.operands]) hy hx hrun h
theorem wpR_unOp (hL : Good Le) {uo : UnOp} {v u : Value} (hy : Yes ops A ⟨dst, .unOp uo t x, ty, pos, after, guard⟩) (hx : slotS A x = Is1 v)
    (hrun : ∀ (ρ : Operand → Value) (w : World), Le W w → ρ x = v → (execOp ρ ⟨dst, .unOp uo t x, ty, pos, after, guard⟩).run P w = .ok (.value u) w) (h : wpR P ops Le W Q rest (upd A dst (Is1 u))) :
    wpR P ops Le W Q (⟨dst, .unOp uo t x, ty, pos, after, guard⟩ :: rest) A := wpR_one hL x (by simp [Op.operands, Call.operands]) hy hx hrun h
theorem wpR_convert (hL : Good Le) {v u : Value} (hy : Yes ops A ⟨dst, .convert t t' x, ty, pos, after, guard⟩) (hx : slotS A x = Is1 v)
    (hrun : ∀ (ρ : Operand → Value) (w : World), Le W w → ρ x = v → (execOp ρ ⟨dst, .convert t t' x, ty, pos, after, guard⟩).run P w = .ok (.value u) w) (h : wpR P ops Le W Q rest (upd A dst (Is1 u))) :
    wpR P ops Le W Q (⟨dst, .convert t t' x, ty, pos, after, guard⟩ :: rest) A := wpR_one hL x (by simp [Op.operands, Call.operands]) hy hx hrun h
theorem wpR_field (hL : Good Le) {fi : Nat} {v u : Value} (hy : Yes ops A ⟨dst, .field t x fi, ty, pos, after, guard⟩) (hx : slotS A x = Is1 v)
    (hrun : ∀ (ρ : Operand → Value) (w : World), Le W w → ρ x = v → (execOp ρ ⟨dst, .field t x fi, ty, pos, after, guard⟩).run P w = .ok (.value u) w) (h : wpR P ops Le W Q rest (upd A dst (Is1 u))) :
    wpR P ops Le W Q (⟨dst, .field t x fi, ty, pos, after, guard⟩ :: rest) A := wpR_one hL x (by simp [Op.operands, Call.operands]) hy hx hrun h
theorem wpR_fieldAddr (hL : Good Le) {fi : Nat} {v u : Value} (hy : Yes ops A ⟨dst, .fieldAddr t x fi, ty, pos, after, guard⟩) (hx : slotS A x = Is1 v)
    (hrun : ∀ (ρ : Operand → Value) (w : World), Le W w → ρ x = v → (execOp ρ ⟨dst, .fieldAddr t x fi, ty, pos, after, guard⟩).run P w = .ok (.value u) w) (h : wpR P ops Le W Q rest (upd A dst (Is1 u))) :
    wpR P ops Le W Q (⟨dst, .fieldAddr t x fi, ty, pos, after, guard⟩ :: rest) A := wpR_one hL x (by simp [Op.operands, Call.operands]) hy hx hrun h
theorem wpR_nilCheck (hL : Good Le) {v u : Value} (hy : Yes ops A ⟨dst, .nilCheck x, ty, pos, after, guard⟩) (hx : slotS A x = Is1 v)
    (hrun : ∀ (ρ : Operand → Value) (w : World), Le W w → ρ x = v → (execOp ρ ⟨dst, .nilCheck x, ty, pos, after, guard⟩).run P w = .ok (.value u) w) (h : wpR P ops Le W Q rest (upd A dst (Is1 u))) :
    wpR P ops Le W Q (⟨dst, .nilCheck x, ty, pos, after, guard⟩ :: rest) A := wpR_one hL x (by simp [Op.operands, Call.operands]) hy hx hrun h
theorem wpR_builtin1 (hL : Good Le) {bi : Builtin} {ats : Array TypeId} {v u : Value} (hy : Yes ops A ⟨dst, .call { callee := .builtin bi, args := #[x], argTypes := ats }, ty, pos, after, guard⟩) (hx : slotS A x = Is1 v)
    (hrun : ∀ (ρ : Operand → Value) (w : World), Le W w → ρ x = v → (execOp ρ ⟨dst, .call { callee := .builtin bi, args := #[x], argTypes := ats }, ty, pos, after, guard⟩).run P w = .ok (.value u) w) (h : wpR P ops Le W Q rest (upd A dst (Is1 u))) :
    wpR P ops Le W Q (⟨dst, .call { callee := .builtin bi, args := #[x], argTypes := ats }, ty, pos, after, guard⟩ :: rest) A := wpR_one hL x (by simp [Op.operands, Call.operands]) hy hx hrun h
theorem wpR_extract (hL : Good Le) {fi : Nat} {v u : Value} (hy : Yes ops A ⟨dst, .extract x fi, ty, pos, after, guard⟩) (hx : slotS A x = Is1 v)
    (hrun : ∀ (ρ : Operand → Value) (w : World), Le W w → ρ x = v → (execOp ρ ⟨dst, .extract x fi, ty, pos, after, guard⟩).run P w = .ok (.value u) w) (h : wpR P ops Le W Q rest (upd A dst (Is1 u))) :
    wpR P ops Le W Q (⟨dst, .extract x fi, ty, pos, after, guard⟩ :: rest) A := wpR_one hL x (by simp [Op.operands, Call.operands]) hy hx hrun h

/-- what a call gives -/
abbrev CallGives (P : Program) (Le : World → World → Prop) (f : FuncId) (args : Array Value) (w : World) (V : KSet) : Prop := Calls P f args w fun e w'' => ∃ u, e = .returned u ∧ Le w w'' ∧ V w'' u

theorem wpR_call1 (hL : Good Le) {f : FuncId} {ats : Array TypeId} {S : KSet} (V : KSet) (hin : ∀ (xs : Array Value) (w' : World), (callFunc f xs).run P w' = .ok (.enter f xs) w')
    (hy : Yes ops A ⟨dst, .call { callee := .value (.func f), args := #[x], argTypes := ats }, ty, pos, after, guard⟩) (hS : slotS A x = S)
    (hm : Mon Le V) (hcall : ∀ u w, Le W w → S w u → CallGives P Le f #[u] w V) (h : wpR P ops Le W Q rest (upd A dst V)) :
    wpR P ops Le W Q (⟨dst, .call { callee := .value (.func f), args := #[x], argTypes := ats }, ty, pos, after, guard⟩ :: rest) A := by
  subst hS
  refine ⟨_, hm, ?_, h⟩
  intro w hw a ha
  rw [hy w a ha]
  refine ⟨fun _ => ?_, fun h => by cases h⟩
  rw [execOp_call_go]
  have e : (#[] ++ Array.map a.eval #[x] ++ #[] : Array Value) = #[a.eval x] := by simp
  rw [e, hin]
  exact hcall _ w hw (fits_eval ha x (looks_op (by simp [Op.operands, Call.operands])))
theorem wpR_call2 (hL : Good Le) {f : FuncId} {ats : Array TypeId} {S S2 : KSet} (V : KSet) (hin : ∀ (xs : Array Value) (w' : World), (callFunc f xs).run P w' = .ok (.enter f xs) w')
    (hy : Yes ops A ⟨dst, .call { callee := .value (.func f), args := #[x, x2], argTypes := ats }, ty, pos, after, guard⟩) (hS : slotS A x = S) (hS2 : slotS A x2 = S2)
    (hm : Mon Le V) (hcall : ∀ u u2 w, Le W w → S w u → S2 w u2 → CallGives P Le f #[u, u2] w V) (h : wpR P ops Le W Q rest (upd A dst V)) :
    wpR P ops Le W Q (⟨dst, .call { callee := .value (.func f), args := #[x, x2], argTypes := ats }, ty, pos, after, guard⟩ :: rest) A := by
  subst hS; subst hS2
  refine ⟨_, hm, ?_, h⟩
  intro w hw a ha
  rw [hy w a ha]
  refine ⟨fun _ => ?_, fun h => by cases h⟩
  rw [execOp_call_go]
  have e : (#[] ++ Array.map a.eval #[x, x2] ++ #[] : Array Value) = #[a.eval x, a.eval x2] := by simp
  rw [e, hin]
  exact hcall _ _ w hw (fits_eval ha x (looks_op (by simp [Op.operands, Call.operands]))) (fits_eval ha x2 (looks_op (by simp [Op.operands, Call.operands])))
theorem wpR_call3 (hL : Good Le) {f : FuncId} {ats : Array TypeId} {S S2 S3 : KSet} (V : KSet) (hin : ∀ (xs : Array Value) (w' : World), (callFunc f xs).run P w' = .ok (.enter f xs) w')
    (hy : Yes ops A ⟨dst, .call { callee := .value (.func f), args := #[x, x2, x3], argTypes := ats }, ty, pos, after, guard⟩) (hS : slotS A x = S) (hS2 : slotS A x2 = S2) (hS3 : slotS A x3 = S3)
    (hm : Mon Le V) (hcall : ∀ u u2 u3 w, Le W w → S w u → S2 w u2 → S3 w u3 → CallGives P Le f #[u, u2, u3] w V) (h : wpR P ops Le W Q rest (upd A dst V)) :
    wpR P ops Le W Q (⟨dst, .call { callee := .value (.func f), args := #[x, x2, x3], argTypes := ats }, ty, pos, after, guard⟩ :: rest) A := by
  subst hS; subst hS2; subst hS3
  refine ⟨_, hm, ?_, h⟩
  intro w hw a ha
  rw [hy w a ha]
  refine ⟨fun _ => ?_, fun h => by cases h⟩
  rw [execOp_call_go]
  have e : (#[] ++ Array.map a.eval #[x, x2, x3] ++ #[] : Array Value) = #[a.eval x, a.eval x2, a.eval x3] := by simp
  rw [e, hin]
  exact hcall _ _ _ w hw (fits_eval ha x (looks_op (by simp [Op.operands, Call.operands]))) (fits_eval ha x2 (looks_op (by simp [Op.operands, Call.operands]))) (fits_eval ha x3 (looks_op (by simp [Op.operands, Call.operands])))
theorem wpR_call4 (hL : Good Le) {f : FuncId} {ats : Array TypeId} {S S2 S3 S4 : KSet} (V : KSet) (hin : ∀ (xs : Array Value) (w' : World), (callFunc f xs).run P w' = .ok (.enter f xs) w')
    (hy : Yes ops A ⟨dst, .call { callee := .value (.func f), args := #[x, x2, x3, x4], argTypes := ats }, ty, pos, after, guard⟩) (hS : slotS A x = S) (hS2 : slotS A x2 = S2) (hS3 : slotS A x3 = S3) (hS4 : slotS A x4 = S4)
    (hm : Mon Le V) (hcall : ∀ u u2 u3 u4 w, Le W w → S w u → S2 w u2 → S3 w u3 → S4 w u4 → CallGives P Le f #[u, u2, u3, u4] w V) (h : wpR P ops Le W Q rest (upd A dst V)) :
    wpR P ops Le W Q (⟨dst, .call { callee := .value (.func f), args := #[x, x2, x3, x4], argTypes := ats }, ty, pos, after, guard⟩ :: rest) A := by
  subst hS; subst hS2; subst hS3; subst hS4
  refine ⟨_, hm, ?_, h⟩
  intro w hw a ha
  rw [hy w a ha]
  refine ⟨fun _ => ?_, fun h => by cases h⟩
  rw [execOp_call_go]
  have e : (#[] ++ Array.map a.eval #[x, x2, x3, x4] ++ #[] : Array Value) = #[a.eval x, a.eval x2, a.eval x3, a.eval x4] := by simp
  rw [e, hin]
  exact hcall _ _ _ _ w hw (fits_eval ha x (looks_op (by simp [Op.operands, Call.operands]))) (fits_eval ha x2 (looks_op (by simp [Op.operands, Call.operands]))) (fits_eval ha x3 (looks_op (by simp [Op.operands, Call.operands]))) (fits_eval ha x4 (looks_op (by simp [Op.operands, Call.operands])))
theorem wpR_callv2 (hL : Good Le) {f : FuncId} {cap : Array Value} {ats : Array TypeId} {S S2 : KSet} (V : KSet) (hin : ∀ (xs : Array Value) (w' : World), (callFunc f xs).run P w' = .ok (.enter f xs) w') {j : Nat}
    (hy : Yes ops A ⟨dst, .call { callee := .value (.tmp j), args := #[x, x2], argTypes := ats }, ty, pos, after, guard⟩) (hf : slotS A (.tmp j) = Is1 (.func (.func f) #[] cap)) (hS : slotS A x = S) (hS2 : slotS A x2 = S2)
    (hm : Mon Le V) (hcall : ∀ u u2 w, Le W w → S w u → S2 w u2 → CallGives P Le f (#[u, u2] ++ cap) w V) (h : wpR P ops Le W Q rest (upd A dst V)) :
    wpR P ops Le W Q (⟨dst, .call { callee := .value (.tmp j), args := #[x, x2], argTypes := ats }, ty, pos, after, guard⟩ :: rest) A := by
  subst hS; subst hS2
  refine ⟨_, hm, ?_, h⟩
  intro w hw a ha
  rw [hy w a ha]
  refine ⟨fun _ => ?_, fun h => by cases h⟩
  have ef : a.eval (.tmp j) = .func (.func f) #[] cap := by
    have := fits_eval ha (.tmp j) (looks_op (by simp [Op.operands, Call.operands])); rw [hf] at this; exact this
  have hc := hcall _ _ w hw (fits_eval ha x (looks_op (by simp [Op.operands, Call.operands]))) (fits_eval ha x2 (looks_op (by simp [Op.operands, Call.operands])))
  have e : (execOp a.eval ⟨dst, .call { callee := .value (.tmp j), args := #[x, x2], argTypes := ats }, ty, pos, after, guard⟩).run P w = .ok (.enter f (#[a.eval x, a.eval x2] ++ cap)) w := by
    have h0 := hin (#[a.eval x, a.eval x2] ++ cap) w
    simp [execOp, resolve, invoke, ef] at h0 ⊢
    exact h0
  rw [e]
  exact hc

/-- a new row of one element -/
def NewOne (E : TypeId) (W : World) (S : KSet) : KSet := fun w u => ∃ b v, u = .slice (some ⟨b, 0, none⟩) 1 1 ∧ W.heap.size ≤ b ∧ w.heap[b]? = some (.cells #[v] E (0, 0)) ∧ S w v

theorem mon_new (E : TypeId) (W : World) {S : KSet} (hS : Mon Bel S) : Mon Bel (NewOne E W S) := fun w w' u hb ⟨b, v, h1, h2, h3, h4⟩ =>
  ⟨b, v, h1, h2, by rw [hb.block b (Array.getElem?_eq_some_iff.1 h3).1]; exact h3, hS _ _ _ hb h4⟩
theorem wpR_new1 {t : TypeId} {E : TypeId} {k : FloatKind} {X : Nat} (hy : Yes ops A ⟨dst, .buildSlice t 1 #[(0, x)], ty, pos, after, guard⟩) (hS : slotS A x = IsF k X)
    (hrun : ∀ (ρ : Operand → Value) (w : World) (r : Nat), ρ x = .float k r → (execOp ρ ⟨dst, .buildSlice t 1 #[(0, x)], ty, pos, after, guard⟩).run P w = .ok (.value (.slice (some ⟨w.heap.size, 0, none⟩) 1 1)) (w.alloc (.cells #[.float k r] E (0, 0))))
    (h : wpR P ops Bel W Q rest (upd A dst (NewOne E W (IsF k X)))) :
    wpR P ops Bel W Q (⟨dst, .buildSlice t 1 #[(0, x)], ty, pos, after, guard⟩ :: rest) A := by
  refine ⟨_, mon_new E W (mon_isF k X), gives_run hy fun w hw a ha => ?_, h⟩
  have hv := fits_eval ha x (looks_op (by simp [Op.operands]))
  rw [hS] at hv
  obtain ⟨r, e, hr⟩ := hv
  exact ⟨_, _, hrun a.eval w r e, (Bel.refl w).alloc _, w.heap.size, _, rfl, hw.size, heap_alloc_new w _, r, rfl, hr⟩

theorem wpR_new1x {t : TypeId} {E : TypeId} {k : FloatKind} {b X : Nat} (hy : Yes ops A ⟨dst, .buildSlice t 1 #[(0, x)], ty, pos, after, guard⟩) (hS : slotS A x = Is1 (.float k b)) (hX : Is k b X)
    (hrun : ∀ (ρ : Operand → Value) (w : World) (r : Nat), ρ x = .float k r → (execOp ρ ⟨dst, .buildSlice t 1 #[(0, x)], ty, pos, after, guard⟩).run P w = .ok (.value (.slice (some ⟨w.heap.size, 0, none⟩) 1 1)) (w.alloc (.cells #[.float k r] E (0, 0))))
    (h : wpR P ops Bel W Q rest (upd A dst (NewOne E W (IsF k X)))) :
    wpR P ops Bel W Q (⟨dst, .buildSlice t 1 #[(0, x)], ty, pos, after, guard⟩ :: rest) A := by
  refine ⟨_, mon_new E W (mon_isF k X), gives_run hy fun w hw a ha => ?_, h⟩
  have e := fits_eval ha x (looks_op (by simp [Op.operands]))
  rw [hS] at e
  exact ⟨_, _, hrun a.eval w b e, (Bel.refl w).alloc _, w.heap.size, _, rfl, hw.size, heap_alloc_new w _, b, rfl, hX⟩

/-! ### behind the region -/
inductive All2 (w : World) : Known → List Value → Prop
  | nil : All2 w [] []
  | cons {S : KSet} {v : Value} {A : Known} {l : List Value} (h : S w v) (r : All2 w A l) : All2 w (S :: A) (v :: l)

theorem all2_of {w : World} : ∀ (A : Known) (l : List Value), A.length = l.length → (∀ (t : Nat) (S : KSet) (v : Value), A[t]? = some S → l[t]? = some v → S w v) → All2 w A l
  | [], [], _, _ => .nil
  | [], _ :: _, h, _ => by cases h
  | _ :: _, [], h, _ => by cases h
  | S :: A, v :: l, h, H => .cons (H 0 S v rfl rfl) (all2_of A l (by simpa using h) fun t S' v' h1 h2 => H (t + 1) S' v' (by simpa using h1) (by simpa using h2))

theorem wpR_end {Q' : Exit → Act → World → Prop} {D : List Deferred} {lt : List Oper} (h : ∀ w, Le W w → ∀ l, All2 w A l → wpList P ops Q' lt ⟨l.toArray, D⟩ w) :
    wpR P ops Le W (fun A' => ∀ a' w', Le W w' → Fits A' w' a' → a'.defers = D → wpList P ops Q' lt a' w') [] A := by
  intro a' w' hw ha hd
  obtain ⟨tmps, defers⟩ := a'
  cases hd
  have := h w' hw tmps.toList (all2_of _ _ (by simpa using ha.1) fun t S v h1 h2 => ha.2 t S v h1 (by simpa using h2))
  simpa using this

theorem all2_is1 {w : World} {G : List Value → Prop} {c : Value} (h : ∀ l, All2 w A l → G (c :: l)) : ∀ l, All2 w (Is1 c :: A) l → G l := by
  intro l hl
  cases hl with
  | cons h1 r => cases h1; exact h _ r
theorem all2_isF {w : World} {G : List Value → Prop} {k : FloatKind} {X : Nat} (h : ∀ b, Is k b X → ∀ l, All2 w A l → G (.float k b :: l)) : ∀ l, All2 w (IsF k X :: A) l → G l := by
  intro l hl
  cases hl with
  | cons h1 r => obtain ⟨b, rfl, hb⟩ := h1; exact h b hb _ r
theorem all2_any {w : World} {G : List Value → Prop} {S : KSet} (h : ∀ v, S w v → ∀ l, All2 w A l → G (v :: l)) : ∀ l, All2 w (S :: A) l → G l := by
  intro l hl
  cases hl with
  | cons h1 r => exact h _ h1 _ r
theorem all2_nil {w : World} {G : List Value → Prop} (h : G []) : ∀ l, All2 w [] l → G l := by
  intro l hl
  cases hl; exact h

/-- the operations that are told by their places -/
def pick (l : List Oper) : List Nat → List Oper
  | [] => []
  | i :: is => l[i]?.toList ++ pick l is
theorem pick_eq (l : List Oper) : ∀ is : List Nat, (is.all fun i => decide (i < l.length)) = true → is.map (l[·]?) = (pick l is).map some
  | [], _ => rfl
  | i :: is, h => by
    simp only [List.all_cons, Bool.and_eq_true, decide_eq_true_eq] at h
    have h1 : l[i]? = some (l[i]'h.1) := List.getElem?_eq_getElem h.1
    simp only [List.map_cons, pick, h1, Option.toList, List.singleton_append]
    rw [pick_eq l is h.2]

/-- **the region, by places** -/
theorem region_K {id : Nat} {Q : Exit → Act → World → Prop} {tmps : List Value} {D : List Deferred} {l : List Oper} (pre tail : List Nat) (hL : Good Le)
    (hm : P.follows .mixedOrders = true) (hB : planB .any l.toArray pre tail = true) (h1 : (pre.all fun i => decide (i < l.length)) = true) (h2 : (tail.all fun i => decide (i < l.length)) = true)
    (h : wpR P l.toArray Le W (fun A' => ∀ a' w', Le W w' → Fits A' w' a' → a'.defers = D → wpList P l.toArray Q (pick l tail) a' w') (pick l pre) (tmps.map Is1)) :
    (Code.region id l.toArray true).wp P Q ⟨tmps.toArray, D⟩ W :=
  wp_region_K pre tail hL.refl hL.trans (fun w => hL.draw w 1) hm hB (pick_eq l pre h1) (pick_eq l tail h2) h
end
end Go.Rk
