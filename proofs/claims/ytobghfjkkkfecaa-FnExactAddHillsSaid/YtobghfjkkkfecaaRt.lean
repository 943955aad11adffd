/-
  A REGION THAT DRAWS ITS ORDER AND ENDS IN A STORE BESIDE WHICH ONE VALUE MAY BE TAKEN OUT BEFORE OR BEHIND. (No program here.)
-/
import Derived.Test.YtobghfjkkkfecaaMs
set_option linter.unusedVariables false
set_option linter.unusedSimpArgs false
namespace Go.Rk
open Go Go.Fl
section
variable {P : Program} {ops : Array Oper} {md : Region.Mode} {Le : World → World → Prop} {W : World}

def twoB (md : Region.Mode) (ops : Array Oper) (i7 i9 i10 : Nat) (L : Array Bool) : Bool :=
  (Region.ready md ops L == [i7, i9]) && ((Region.ready md ops (L.setIfInBounds i7 true) == [i9]) && ((Region.ready md ops (L.setIfInBounds i9 true) == [i7]) &&
    (tailB md ops [i10] ((L.setIfInBounds i7 true).setIfInBounds i9 true) && tailB md ops [i10] ((L.setIfInBounds i9 true).setIfInBounds i7 true))))
def planB2 (md : Region.Mode) (ops : Array Oper) (pre : List Nat) (i7 i9 i10 : Nat) : Bool :=
  match preB md ops pre (Array.replicate ops.size false) with
  | none => false
  | some L0 => twoB md ops i7 i9 i10 L0 && (pre.all fun i => safeB md ops L0 i) && (pre.length + 3 == ops.size)

/-- what the three last operations do from 'a' and 'w' -/
structure Three (P : Program) (o7 o9 o10 : Oper) (a : Act) (w : World) (v : Value) (w' : World) : Prop where
  r7 : (execOp a.eval o7).run P w = .ok (.value v) w
  r7' : (execOp a.eval o7).run P w' = .ok (.value v) w'
  r9 : (execOp a.eval o9).run P w = .ok .skip w'
  r9' : (execOp (a.put o7.dst v).eval o9).run P w = .ok .skip w'
  r10 : (execOp (a.put o7.dst v).eval o10).run P w' = .ok (.value v) w'

theorem wpOp_step {i : Nat} {o : Oper} {Q : Exit → Act → World → Prop} {K : Act → World → Prop} {a : Act} {w w' : World} {v : Value} (h : ops[i]? = some o) (hg : o.guard = none) (hr : (execOp a.eval o).run P w = .ok (.value v) w') (hK : K (a.put o.dst v) w') : wpOp P ops Q i K a w := by
  unfold wpOp
  simp only [h]
  have e : Region.wanted o (yielded ops a.tmps) = true := by unfold Region.wanted; rw [hg]
  rw [e]
  left
  unfold Oper.wp
  rw [hr]
  exact hK
theorem wpOp_skip {i : Nat} {o : Oper} {Q : Exit → Act → World → Prop} {K : Act → World → Prop} {a : Act} {w w' : World} (h : ops[i]? = some o) (hg : o.guard = none) (hd : o.dst = none) (hr : (execOp a.eval o).run P w = .ok .skip w') (hK : K a w') : wpOp P ops Q i K a w := by
  unfold wpOp
  simp only [h]
  have e : Region.wanted o (yielded ops a.tmps) = true := by unfold Region.wanted; rw [hg]
  rw [e]
  left
  unfold Oper.wp
  rw [hr]
  show K (a.put o.dst undef) w'
  rw [hd]; exact hK

theorem wpAny_two {i7 i9 i10 : Nat} {o7 o9 o10 : Oper} {L : Array Bool} {a : Act} {w w' : World} {v : Value} {Q : Exit → Act → World → Prop}
    (h7 : ops[i7]? = some o7) (h9 : ops[i9]? = some o9) (h10 : ops[i10]? = some o10) (g7 : o7.guard = none) (g9 : o9.guard = none) (g10 : o10.guard = none) (d9 : o9.dst = none)
    (hB : twoB md ops i7 i9 i10 L = true) (hT : Three P o7 o9 o10 a w v w') (h : Q .normal ((a.put o7.dst v).put o10.dst v) w') : wpAny P md ops Q 3 L a w := by
  unfold twoB at hB
  simp only [Bool.and_eq_true, beq_iff_eq, tailB, List.isEmpty_iff] at hB
  obtain ⟨b1, b2, b3, ⟨b4, b5⟩, b6, b7⟩ := hB
  have one : ∀ {L' : Array Bool} {a' : Act}, Region.ready md ops L' = [i10] → Region.ready md ops (L'.setIfInBounds i10 true) = [] → a' = a.put o7.dst v → wpAny P md ops Q 1 L' a' w' := by
    intro L' a' e1 e2 ea
    subst ea
    refine ⟨fun h0 => (by rw [e1] at h0; cases h0), fun i hi => ?_⟩
    rw [e1, List.mem_singleton] at hi
    subst hi
    exact wpOp_step h10 g10 hT.r10 ⟨e2, h⟩
  refine ⟨fun h0 => (by rw [b1] at h0; cases h0), fun i hi => ?_⟩
  rw [b1] at hi
  simp only [List.mem_cons, List.not_mem_nil, or_false] at hi
  rcases hi with rfl | rfl
  · refine wpOp_step h7 g7 hT.r7 ⟨fun h0 => (by rw [b2] at h0; cases h0), fun i hi => ?_⟩
    rw [b2, List.mem_singleton] at hi
    subst hi
    exact wpOp_skip h9 g9 d9 hT.r9' (one b4 b5 rfl)
  · refine wpOp_skip h9 g9 d9 hT.r9 ⟨fun h0 => (by rw [b3] at h0; cases h0), fun i hi => ?_⟩
    rw [b3, List.mem_singleton] at hi
    subst hi
    exact wpOp_step h7 g7 hT.r7' (one b6 b7 rfl)

/-- **a region that draws its order: 'pre' in whatever order, then a value taken out ('i7') before or behind a store ('i9'), then 'i10'** -/
theorem wp_region_K2 {id : Nat} {Q : Exit → Act → World → Prop} {tmps : List Value} {D : List Deferred} {l : List Oper} (pre : List Nat) (i7 i9 i10 : Nat) {o7 o9 o10 : Oper} (hL : Good Le)
    (hm : P.follows .mixedOrders = true) (hB : planB2 .any l.toArray pre i7 i9 i10 = true) {lp : List Oper} (hp : pre.map (l[·]?) = lp.map some) (h7 : l[i7]? = some o7) (h9 : l[i9]? = some o9) (h10 : l[i10]? = some o10) (g7 : o7.guard = none) (g9 : o9.guard = none) (g10 : o10.guard = none) (d9 : o9.dst = none)
    (h : wpR P l.toArray Le W (fun A' => ∀ w', Le W w' → ∀ tl, All2 w' A' tl → ∃ v w'', Three P o7 o9 o10 ⟨tl.toArray, D⟩ w' v w'' ∧ wpList P l.toArray Q [] (((⟨tl.toArray, D⟩ : Act).put o7.dst v).put o10.dst v) w'') lp (tmps.map Is1)) :
    (Code.region id l.toArray true).wp P Q ⟨tmps.toArray, D⟩ W := by
  unfold planB2 at hB
  split at hB
  · cases hB
  rename_i L0 hL0
  simp only [Bool.and_eq_true, beq_iff_eq, List.all_eq_true] at hB
  obtain ⟨⟨hT, hS⟩, hN⟩ := hB
  have hfit : Fits (tmps.map Is1) (W.drewN 1) ⟨tmps.toArray, D⟩ := by
    refine ⟨by simp, fun t S v hS hv => ?_⟩
    simp at hS hv
    obtain ⟨u, hu, rfl⟩ := hS
    rw [hu] at hv
    cases hv; rfl
  have hmon : AllMon Le (tmps.map Is1) := by
    intro t S hS
    simp at hS
    obtain ⟨u, _, rfl⟩ := hS
    exact fun _ _ _ _ h => h
  have hp' : pre.map (l.toArray[·]?) = lp.map some := by simpa using hp
  refine wp_region_any hm ?_
  have key : wpAny P .any l.toArray Q (pre.length + 3) (Array.replicate l.toArray.size false) ⟨tmps.toArray, D⟩ (W.drewN 1) := by
   refine wpAny_of_R (Le := Le) (W := W) (L0 := L0) (Q := fun A' => ∀ w', Le W w' → ∀ tl, All2 w' A' tl → ∃ v w'', Three P o7 o9 o10 ⟨tl.toArray, D⟩ w' v w'' ∧ wpList P l.toArray Q [] (((⟨tl.toArray, D⟩ : Act).put o7.dst v).put o10.dst v) w'') hL.refl hL.trans D 3 ?_ _ _ _ _ _ (hL.draw W 1) hmon hfit rfl ?_
   · intro A a w hw ha hd' hh
     obtain ⟨tm, df⟩ := a
     have hall : All2 w A tm.toList := all2_of A tm.toList (by have := ha.1; simpa using this) (fun t S v hS hv => ha.2 t S v hS (by simpa using hv))
     obtain ⟨v, w'', h1, h2⟩ := hh w hw tm.toList hall
     have e : (⟨tm.toList.toArray, D⟩ : Act) = ⟨tm, df⟩ := by
       have hd2 : df = D := hd'
       subst hd2; simp
     rw [e] at h1 h2
     exact wpAny_two (by simpa using h7) (by simpa using h9) (by simpa using h10) g7 g9 g10 d9 hT h1 h2
   · exact wpAnyR_pre pre lp _ _ hp' hL0 (fun i hi => safe_of (hS i hi)) (fun k o _ hl => by exfalso; rcases Nat.lt_or_ge k l.length with h' | h' <;> simp [Array.getElem?_replicate, h'] at hl) h
  rw [hN] at key
  exact key

theorem wpR_end2 {A : Known} {F : World → List Value → Prop} (h : ∀ w, Le W w → ∀ l, All2 w A l → F w l) : wpR P ops Le W (fun A' => ∀ w', Le W w' → ∀ tl, All2 w' A' tl → F w' tl) [] A := h
end
section
variable {P : Program} {ops : Array Oper} {Le : World → World → Prop} {W : World} {Q : Known → Prop} {rest : List Oper} {A : Known} {dst : Option Tmp} {ty : TypeId} {pos : String} {after : Array Edge} {guard : Option (Nat × Bool)} {x : Operand}
/-- a value taken out of a tuple, of which a set is known -/
theorem wpR_extractV (hL : Good Le) {fi : Nat} {S V : KSet} (hm : Mon Le V) (hy : Yes ops A ⟨dst, .extract x fi, ty, pos, after, guard⟩) (hS : slotS A x = S)
    (hrun : ∀ (ρ : Operand → Value) (w : World), S w (ρ x) → ∃ u, (execOp ρ ⟨dst, .extract x fi, ty, pos, after, guard⟩).run P w = .ok (.value u) w ∧ V w u) (h : wpR P ops Le W Q rest (upd A dst V)) :
    wpR P ops Le W Q (⟨dst, .extract x fi, ty, pos, after, guard⟩ :: rest) A := by
  refine ⟨_, hm, gives_run hy fun w hw a ha => ?_, h⟩
  have hv := fits_eval ha x (looks_op (by simp [Op.operands]))
  rw [hS] at hv
  obtain ⟨u, h1, h2⟩ := hrun a.eval w hv
  exact ⟨u, w, h1, hL.refl _, h2⟩
end
section
variable {P : Program} {ops : Array Oper} {W : World} {Q : Known → Prop} {rest : List Oper} {A : Known} {dst : Option Tmp} {ty : TypeId} {pos : String} {after : Array Edge} {guard : Option (Nat × Bool)}
/-- a fresh variable -/
def NewVar (o : Obj) (W : World) : KSet := fun w u => ∃ b, u = .pointer (some ⟨b, 0, none⟩) ∧ W.heap.size ≤ b ∧ w.heap[b]? = some o
theorem mon_newVar (o : Obj) (W : World) : Mon Bel (NewVar o W) := fun w w' u hb ⟨b, h1, h2, h3⟩ => ⟨b, h1, h2, by rw [hb.block b (Array.getElem?_eq_some_iff.1 h3).1]; exact h3⟩
theorem wpR_allocV {t : TypeId} (o : Obj) (hy : Yes ops A ⟨dst, .alloc t, ty, pos, after, guard⟩)
    (hrun : ∀ (ρ : Operand → Value) (w : World), (execOp ρ ⟨dst, .alloc t, ty, pos, after, guard⟩).run P w = .ok (.value (.pointer (some ⟨w.heap.size, 0, none⟩))) (w.alloc o))
    (h : wpR P ops Bel W Q rest (upd A dst (NewVar o W))) : wpR P ops Bel W Q (⟨dst, .alloc t, ty, pos, after, guard⟩ :: rest) A := by
  refine ⟨_, mon_newVar o W, gives_run hy fun w hw a ha => ?_, h⟩
  exact ⟨_, _, hrun a.eval w, (Bel.refl w).alloc _, w.heap.size, rfl, hw.size, heap_alloc_new w _⟩
end
theorem region_K2 {P : Program} {Le : World → World → Prop} {W : World} {id : Nat} {Q : Exit → Act → World → Prop} {tmps : List Value} {D : List Deferred} {l : List Oper} (pre : List Nat) (i7 i9 i10 : Nat) {o7 o9 o10 : Oper} (hL : Good Le)
    (hm : P.follows .mixedOrders = true) (hB : planB2 .any l.toArray pre i7 i9 i10 = true) (h1 : (pre.all fun i => decide (i < l.length)) = true) (h7 : l[i7]? = some o7) (h9 : l[i9]? = some o9) (h10 : l[i10]? = some o10) (g7 : o7.guard = none) (g9 : o9.guard = none) (g10 : o10.guard = none) (d9 : o9.dst = none)
    (h : wpR P l.toArray Le W (fun A' => ∀ w', Le W w' → ∀ tl, All2 w' A' tl → ∃ v w'', Three P o7 o9 o10 ⟨tl.toArray, D⟩ w' v w'' ∧ wpList P l.toArray Q [] (((⟨tl.toArray, D⟩ : Act).put o7.dst v).put o10.dst v) w'') (pick l pre) (tmps.map Is1)) :
    (Code.region id l.toArray true).wp P Q ⟨tmps.toArray, D⟩ W :=
  wp_region_K2 pre i7 i9 i10 hL hm hB (pick_eq l pre h1) h7 h9 h10 g7 g9 g10 d9 h

/-! ### an operation that takes a value out and whose place is free: in whatever order, as in the order of the text -/
section
variable {P : Program} {ops : Array Oper}
theorem any_text {e : Edge} (h : Region.binds .any e = true) : Region.binds .text e = true := by
  unfold Region.binds at *
  cases hg : e.ground <;> rw [hg] at h <;> first | rfl | (exact absurd (show (Region.Mode.any == Region.Mode.gc) = true from h) (by decide))
def floatB (ops : Array Oper) (i7 i9 : Nat) : Bool := match ops[i7]?, ops[i9]? with
  | some o7, some o9 =>
    ((List.range ops.size).all fun j => j == i7 || match ops[j]? with
      | none => true
      | some oj => o7.after.any (fun e => Region.binds .any e && e.on == j) || (oj.after.any (fun e => Region.binds .any e && e.on == i7) || o7.apart ops oj)) &&
    (((List.range ops.size).all fun j => match ops[j]? with
      | none => true
      | some oj => oj.after.all (fun e => Region.binds .any e || (!Region.binds .text e || (j == i9 && e.on == i7)))) &&
    (o7.after.all (fun e => !Region.binds .text e || o9.after.any (fun e' => Region.binds .any e' && e'.on == e.on)) && Region.noSelect ops))
  | _, _ => false
theorem text_any {i7 i9 : Nat} {o7 o9 : Oper} {Q : Exit → Act → World → Prop} (h7 : ops[i7]? = some o7) (h9 : ops[i9]? = some o9) (hB : floatB ops i7 i9 = true)
    (hQ : ∀ v c a w, Q (.panic c) (a.put o7.dst v) w → Q (.panic c) a w)
    (hP : ∀ (K : Act → World → Prop) (a : Act) (w : World), wpOp P ops Q i7 K a w → ∃ v, Yields P ops o7 v a ∧ K (a.put o7.dst v) w) :
    ∀ (fuel : Nat) (L : Array Bool) (a : Act) (w : World), L.size = ops.size → wpAny P .text ops Q fuel L a w → wpAny P .any ops Q fuel L a w := by
  unfold floatB at hB
  rw [h7, h9] at hB
  simp only [Bool.and_eq_true, List.all_eq_true, List.mem_range] at hB
  obtain ⟨b1, b2, b3, b4⟩ := hB
  have sub : ∀ (L : Array Bool) (i : Nat), i ∈ Region.ready .text ops L → i ∈ Region.ready .any ops L := by
    intro L i hi
    obtain ⟨u, o, ho, hall⟩ := mem_ready.1 hi
    exact mem_ready.2 ⟨u, o, ho, fun e he hb => hall e he (any_text hb)⟩
  have sup : ∀ (L : Array Bool) (i : Nat), L.size = ops.size → i ∈ Region.ready .any ops L → i ∉ Region.ready .text ops L → i7 ∈ Region.ready .text ops L := by
    intro L i hLs hi hni
    obtain ⟨u, o, ho, hall⟩ := mem_ready.1 hi
    by_cases hL : L.getD i7 false = true
    · exfalso
      refine hni (mem_ready.2 ⟨u, o, ho, fun e he hb => ?_⟩)
      have hlt : i < ops.size := (Array.getElem?_eq_some_iff.1 ho).1
      have hc := b2 i hlt
      rw [ho] at hc
      have hce := Array.all_eq_true_iff_forall_mem.1 hc e he
      simp only [Bool.or_eq_true, Bool.not_eq_true', Bool.and_eq_true, beq_iff_eq] at hce
      rcases hce with hce | hce | hce
      · exact hall e he hce
      · rw [hb] at hce; cases hce
      · rw [hce.2]; exact hL
    · -- then 'i' is 'i9', and all that 'i7' waits for is done
      have hlt : i < ops.size := (Array.getElem?_eq_some_iff.1 ho).1
      have hc := b2 i hlt
      rw [ho] at hc
      have hi9 : i = i9 := by
        refine Decidable.byContradiction fun hne => ?_
        refine hni (mem_ready.2 ⟨u, o, ho, fun e he hb => ?_⟩)
        have hce := Array.all_eq_true_iff_forall_mem.1 hc e he
        simp only [Bool.or_eq_true, Bool.not_eq_true', Bool.and_eq_true, beq_iff_eq] at hce
        rcases hce with hce | hce | hce
        · exact hall e he hce
        · rw [hb] at hce; cases hce
        · exact absurd hce.1 hne
      subst hi9
      rw [h9] at ho; cases ho
      refine mem_ready.2 ⟨?_, o7, h7, fun e he hb => ?_⟩
      · have hsz : i7 < L.size := by rw [hLs]; exact (Array.getElem?_eq_some_iff.1 h7).1
        simp [hsz] at hL ⊢; exact hL
      · have hce := Array.all_eq_true_iff_forall_mem.1 b3 e he
        simp only [Bool.or_eq_true, Bool.not_eq_true'] at hce
        rcases hce with hce | hce
        · rw [hb] at hce; cases hce
        · obtain ⟨e', he', hb'⟩ := Array.any_eq_true'.1 hce
          simp only [Bool.and_eq_true, beq_iff_eq] at hb'
          rw [← hb'.2]; exact hall e' he' hb'.1
  intro fuel
  induction fuel with
  | zero =>
    intro L a w hLs h
    refine ⟨?_, h.2⟩
    refine Decidable.byContradiction fun hne => ?_
    obtain ⟨i, hi⟩ := List.exists_mem_of_ne_nil _ hne
    by_cases ht : i ∈ Region.ready .text ops L
    · rw [h.1] at ht; cases ht
    · have := sup L i hLs hi ht; rw [h.1] at this; cases this
  | succ fuel ih =>
    intro L a w hLs h
    by_cases h7r : i7 ∈ Region.ready .text ops L
    · obtain ⟨v, hy, hK⟩ := hP _ a w (h.2 i7 h7r)
      refine wpAny_first h7 (Region.noSelect_spec b4) (hQ v) fuel L a w ?_ (sub L i7 h7r) hy (ih _ _ _ (by simpa using hLs) hK)
      intro j oj hj hji hun hno
      have hc := b1 j (Array.getElem?_eq_some_iff.1 hj).1
      rw [hj] at hc
      simp only [Bool.or_eq_true, beq_iff_eq, hji, false_or] at hc
      rcases hc with hc | hc | hc
      · obtain ⟨e, he, hb⟩ := Array.any_eq_true'.1 hc
        simp only [Bool.and_eq_true, beq_iff_eq] at hb
        obtain ⟨_, o, ho, hall⟩ := mem_ready.1 (sub L i7 h7r)
        rw [h7] at ho; cases ho
        have h1 := hall e he hb.1
        rw [hb.2] at h1
        rcases Nat.lt_or_ge j L.size with h' | h'
        · simp [h'] at h1 hun; rw [h1] at hun; cases hun
        · simp [Array.getElem?_eq_none h'] at h1
      · obtain ⟨e, he, hb⟩ := Array.any_eq_true'.1 hc
        simp only [Bool.and_eq_true, beq_iff_eq] at hb
        exact absurd hb.2 (hno e he hb.1)
      · exact hc
    · have all : ∀ i ∈ Region.ready .any ops L, i ∈ Region.ready .text ops L := by
        intro i hi
        by_cases ht : i ∈ Region.ready .text ops L
        · exact ht
        · exact absurd (sup L i hLs hi ht) h7r
      refine ⟨fun h0 => h.1 ?_, fun i hi => wpOp_mono (fun a' w' hh => ih _ a' w' (by simpa using hLs) hh) (h.2 i (all i hi))⟩
      refine Decidable.byContradiction fun hne => ?_
      obtain ⟨i, hi⟩ := List.exists_mem_of_ne_nil _ hne
      have := sub L i hi
      rw [h0] at this; cases this
end

section
variable {P : Program} {ops : Array Oper}
theorem float_extract {i7 : Nat} {dst : Option Tmp} {x : Operand} {fi : Nat} {ty : TypeId} {pos : String} {after : Array Edge} {Q : Exit → Act → World → Prop} (h7 : ops[i7]? = some ⟨dst, .extract x fi, ty, pos, after, none⟩) :
    ∀ (K : Act → World → Prop) (a : Act) (w : World), wpOp P ops Q i7 K a w → ∃ v, Yields P ops ⟨dst, .extract x fi, ty, pos, after, none⟩ v a ∧ K (a.put dst v) w := by
  intro K a w h
  unfold wpOp at h
  simp only [h7] at h
  have e : Region.wanted ⟨dst, .extract x fi, ty, pos, after, none⟩ (yielded ops a.tmps) = true := rfl
  rw [e] at h
  simp only [if_true] at h
  cases hx : a.eval x with
  | tuple vs =>
    cases hv : vs[fi]? with
    | some v =>
      have hr : ∀ w, (execOp a.eval ⟨dst, .extract x fi, ty, pos, after, none⟩).run P w = .ok (.value v) w := fun w => by simp [execOp, hx, Instr.extract, hv]
      refine ⟨v, .inl ⟨e, hr⟩, ?_⟩
      rcases h with h | h
      · unfold Oper.wp at h; rw [hr] at h; exact h
      · exfalso; have := h.1.1; simp [execOp, hx, Instr.extract, hv] at this; exact absurd (show noRoomEvent ∈ (#[] : Array Event) from this) (by simp)
    | none => (exfalso; have hr : (execOp a.eval ⟨dst, .extract x fi, ty, pos, after, none⟩) = .halt (.stuck "Extract: no such component") := (by simp [execOp, hx, Instr.extract, hv] <;> rfl); rcases h with h | h; (unfold Oper.wp at h; rw [hr] at h; exact h); (have := h.1.1; rw [hr] at this; exact absurd (show noRoomEvent ∈ (#[] : Array Event) from this) (by simp)))
  | _ => (exfalso; have hr : (execOp a.eval ⟨dst, .extract x fi, ty, pos, after, none⟩) = .halt (.stuck "Extract: tuple expected") := (by simp [execOp, hx, Instr.extract] <;> rfl); rcases h with h | h; (unfold Oper.wp at h; rw [hr] at h; exact h); (have := h.1.1; rw [hr] at this; exact absurd (show noRoomEvent ∈ (#[] : Array Event) from this) (by simp)))
end

section
variable {P : Program} {Le : World → World → Prop} {W : World}
/-- **a region that draws its order, one operation of which only takes a value out of a tuple and may stand behind a store: as in the order of the text** -/
theorem region_KT {id : Nat} {Q : Exit → Act → World → Prop} {tmps : List Value} {D : List Deferred} {l : List Oper} (pre tail : List Nat) (i7 i9 : Nat) {dst : Option Tmp} {x : Operand} {fi : Nat} {ty : TypeId} {pos : String} {after : Array Edge} {o9 : Oper} (hL : Good Le)
    (hm : P.follows .mixedOrders = true) (hB : planB .text l.toArray pre tail = true) (hF : floatB l.toArray i7 i9 = true) (h1 : (pre.all fun i => decide (i < l.length)) = true) (h2 : (tail.all fun i => decide (i < l.length)) = true)
    (h7 : l[i7]? = some ⟨dst, .extract x fi, ty, pos, after, none⟩) (h9 : l[i9]? = some o9) (hQ : ∀ v c a w, Q (.panic c) (a.put dst v) w → Q (.panic c) a w)
    (h : wpR P l.toArray Le W (fun A' => ∀ a' w', Le W w' → Fits A' w' a' → a'.defers = D → wpList P l.toArray Q (pick l tail) a' w') (pick l pre) (tmps.map Is1)) :
    (Code.region id l.toArray true).wp P Q ⟨tmps.toArray, D⟩ W := by
  unfold planB at hB
  split at hB
  · cases hB
  rename_i L0 hL0
  simp only [Bool.and_eq_true, beq_iff_eq, List.all_eq_true] at hB
  obtain ⟨⟨hT, hS⟩, hN⟩ := hB
  have hfit : Fits (tmps.map Is1) (W.drewN 1) ⟨tmps.toArray, D⟩ := by
    refine ⟨by simp, fun t S v hS hv => ?_⟩
    simp at hS hv
    obtain ⟨u, hu, rfl⟩ := hS
    rw [hu] at hv
    cases hv; rfl
  have hmon : AllMon Le (tmps.map Is1) := by
    intro t S hS
    simp at hS
    obtain ⟨u, _, rfl⟩ := hS
    exact fun _ _ _ _ h => h
  have hp' : pre.map (l.toArray[·]?) = (pick l pre).map some := by simpa using pick_eq l pre h1
  have hq' : tail.map (l.toArray[·]?) = (pick l tail).map some := by simpa using pick_eq l tail h2
  refine wp_region_any hm ?_
  have key : wpAny P .text l.toArray Q (pre.length + tail.length) (Array.replicate l.toArray.size false) ⟨tmps.toArray, D⟩ (W.drewN 1) := by
   refine wpAny_of_R (Le := Le) (W := W) (Q := fun A' => ∀ a' w', Le W w' → Fits A' w' a' → a'.defers = D → wpList P l.toArray Q (pick l tail) a' w') hL.refl hL.trans D tail.length (fun A a w hw ha hd' hh => wpAny_tail tail _ L0 a w hq' hT (hh a w hw ha hd')) _ _ _ _ _ (hL.draw W 1) hmon hfit rfl ?_
   exact wpAnyR_pre pre _ _ _ hp' hL0 (fun i hi => safe_of (hS i hi)) (fun k o _ hl => by exfalso; rcases Nat.lt_or_ge k l.length with h' | h' <;> simp [Array.getElem?_replicate, h'] at hl) h
  rw [hN] at key
  have h7' : l.toArray[i7]? = some ⟨dst, .extract x fi, ty, pos, after, none⟩ := by simpa using h7
  exact text_any (o7 := ⟨dst, .extract x fi, ty, pos, after, none⟩) h7' (by simpa using h9) hF hQ (float_extract h7') _ _ _ _ (by simp) key
end

theorem wpList_skip {P : Program} {ops : Array Oper} {Q : Exit → Act → World → Prop} {o : Oper} {rest : List Oper} {a : Act} {w w' : World} (hg : o.guard = none) (hd : o.dst = none) (hr : (execOp a.eval o).run P w = .ok .skip w') (h : wpList P ops Q rest a w') : wpList P ops Q (o :: rest) a w := by
  have e : Region.wanted o (yielded ops a.tmps) = true := by unfold Region.wanted; rw [hg]
  unfold wpList
  rw [e]
  simp only [if_true]
  left
  unfold Oper.wp
  rw [hr]
  show wpList P ops Q rest (a.put o.dst undef) w'
  rw [hd]; exact h
end Go.Rk
