/-
  PLAIN LAWS AND CONTRACTS, part 2: several texts laid behind one another.
-/
import Derived.Test.YtianaalokclklaaGreatDoorPr1
import Derived.Test.YtianaalokclklaaGreatDoorShelf
import Derived.Lib.LaidTab
import Derived.Stop.LaidErr
import Derived.Still
import Derived.Test.YtianaalokclklaaGreatDoorRows
import Derived.WalkKit
import Derived.WalkSpells
import Derived.WalkLawsBesides
import Derived.Lib.Hide
import Derived.Deep.OwnRows
import Derived.Lib.Join
import Derived.Laws.Concat
import Derived.Lib.ParseIntBCases
import Derived.Lib.ParseIntBTie
import Derived.Lib.AtoiErrMem
import Derived.Lib.Repeat
import Derived.Laws.BitsAllLaws

/-
  SLICES OF INTEGERS: what is known of one in a world; one that came in, opened. (No program here.)
-/
section
set_option linter.unusedVariables false
set_option linter.unusedSimpArgs false
namespace Go.Fl
open Go Ieee Go.ChangeShapes Go.WideShapes

/-- '.slice ao n c' reads as the integers 'z 0 .. z (n - 1)' in 'w' -/
structure IRow (k : IntKind) (w : World) (ao : Option Addr) (n : Nat) (z : Nat → Int) : Prop where
  at0 : 0 < n → ∃ b off, ao = some ⟨b, off, none⟩ ∧ b < w.heap.size ∧ ∀ i, i < n → w.cell? ⟨b, off + i, none⟩ = some (.int k (z i))
  wf : ∀ i, i < n → (Lit.int k (z i)).wf = true

theorem IRow.below {k : IntKind} {w w' : World} {ao : Option Addr} {n : Nat} {z : Nat → Int} (h : IRow k w ao n z) {B : Nat} (hB : w.heap.size ≤ B) (hb : RowKit.Below B w w') : IRow k w' ao n z := by
  refine ⟨fun hn => ?_, h.wf⟩
  obtain ⟨b, off, h1, h2, h3⟩ := h.at0 hn
  refine ⟨b, off, h1, Nat.lt_of_lt_of_le h2 hb.size, fun i hi => ?_⟩
  rw [hb.cell (p := ⟨b, off + i, none⟩) (by show b < B; omega)]
  exact h3 i hi
theorem IRow.drewN {k : IntKind} {w : World} {ao : Option Addr} {n : Nat} {z : Nat → Int} (h : IRow k w ao n z) (q : Nat) : IRow k (w.drewN q) ao n z := ⟨h.at0, h.wf⟩
theorem IRow.bel {k : IntKind} {w w' : World} {ao : Option Addr} {n : Nat} {z : Nat → Int} (h : IRow k w ao n z) (hb : Bel w w') : IRow k w' ao n z := h.below (Nat.le_refl _) hb

theorem u8_wf {z : Int} (h : (Lit.int .u8 z).wf = true) : 0 ≤ z ∧ z ≤ 255 := by
  unfold Lit.wf at h
  rw [Bool.and_eq_true, decide_eq_true_eq, decide_eq_true_eq] at h
  exact h
theorem i64_wf {z : Int} (h : (Lit.int .i64 z).wf = true) : -9223372036854775808 ≤ z ∧ z ≤ 9223372036854775807 := by
  unfold Lit.wf at h
  rw [Bool.and_eq_true, decide_eq_true_eq, decide_eq_true_eq] at h
  exact h

section
variable {H : Type} {enc : TypeId × Value → H} {P : Program} {W : World}

/-- a slice of integers that came in -/
theorem open_irow {k : IntKind} {t e : TypeId} {v : Value} {d : DataW H} {ps : List MemPlace} {r : Reach} {b0 : Nat} (ht : P.underlying t = some (.slice e)) (he : P.underlying e = some (.int k)) (hc : P.cellsOf e = 1)
    (hv : Value.okWide P W r b0 t v) (h : DataW.Trod enc P W 0 (fun _ => true) true t v d ps) :
    ∃ ao n c z, v = .slice ao n c ∧ IRow k W ao n z ∧ n ≤ c ∧ c ≤ maxLen := by
  obtain ⟨ao, n, c, rfl⟩ := okWide_slice ht hv
  obtain ⟨fuel, hf⟩ := h
  rcases Deep.open_slice1 ht hc hf with ⟨h0, _⟩ | ⟨a, len, cap, m, kk, V, D, Pl, h0, hb, hl, hm, hmm, hx, hi⟩
  · simp [Value.cells] at h0
    obtain ⟨rfl, rfl, rfl⟩ := h0
    exact ⟨none, 0, 0, fun _ => 0, rfl, ⟨fun h => absurd h (by omega), fun i h => absurd h (by omega)⟩, Nat.le_refl _, by simp [maxLen]⟩
  · simp [Value.cells] at h0
    obtain ⟨rfl, rfl, rfl⟩ := h0
    simp at hmm
    have each : ∀ i, i < n → ∃ x, V i = .int k x ∧ (Lit.int k x).wf = true := by
      intro i hi'
      obtain ⟨_, h2⟩ := hi i (by omega)
      cases kk with
      | zero => simp [DataW.trod] at h2
      | succ kk =>
        simp only [DataW.trod, he] at h2
        cases hV : V i <;> rw [hV] at h2 <;> simp at h2
        rename_i k2 b
        obtain ⟨rfl, h3⟩ := h2.1
        exact ⟨b, rfl, by simpa using h3⟩
    obtain ⟨f, hf'⟩ := Deep.choose_lt (α := Int) (p := fun i x => V i = .int k x ∧ (Lit.int k x).wf = true) each
    refine ⟨some a, n, c, f, rfl, ⟨fun hn => ?_, fun i hi' => (hf' i hi').2⟩, hl, hm⟩
    obtain ⟨b, off, spot⟩ := a
    have h00 := (hi 0 (by omega)).1
    have hspot : spot = none := by simpa [Addr.add] using World.cell?_spot h00
    subst hspot
    refine ⟨b, off, rfl, ?_, fun i hi' => ?_⟩
    · have := lt_of_cell h00
      simpa [Addr.add] using this
    · have h1 := (hi i (by omega)).1
      rw [(hf' i hi').1] at h1
      rw [← h1]
      congr 1
      unfold Addr.add
      split
      · rename_i h; simp [h]
      · rfl
end

end Go.Fl
end

/-
  THE LAW 'FnExactDecimal': its walk.
-/
section
set_option linter.unusedSimpArgs false
set_option linter.unusedVariables false
namespace Go.Proofs.YtianaalokclklaaGreatDoor
open Go.RowKit Go.Fl

abbrev Tab (w : World) : Prop := Lib.TabIs Tryz.prog w "internal/strconv.uint64pow10" .u64 Lib.pow10Tab
theorem var_bel {P : Program} {w w' : World} {name : String} {cs : Array Value} (h : w.var? P name = some cs) (hb : Bel w w') : w'.var? P name = some cs := by
  unfold World.var? at *
  cases hg : P.globalNamed name with
  | none => rw [hg] at h; cases h
  | some g =>
    rw [hg] at h
    simp only [Option.bind_some] at h ⊢
    cases hh : w.heap[g]? with
    | none => rw [hh] at h; cases h
    | some o =>
      rw [hb.block g (Array.getElem?_eq_some_iff.1 hh).1]
      exact h
theorem tab_bel {w w' : World} (h : Tab w) (hb : Bel w w') : Tab w' := var_bel h hb
theorem grow_bel (w : World) (k : Nat) (os : Array Obj) : Bel w (Sort.grow (w.drewN k) os) := by
  refine ⟨rfl, rfl, rfl, by simp [Sort.grow], fun j hj => ?_⟩
  show (w.heap ++ os)[j]? = w.heap[j]?
  rw [Array.getElem?_append_left hj]
theorem g17 : Tryz.prog.globalNamed "internal/strconv.uint64pow10" = some 1 := by kernel_rfl
theorem g17t : (Tryz.prog.globals[1]?).map (·.type) = some 139 := by kernel_rfl
end Go.Proofs.YtianaalokclklaaGreatDoor
end

/-
  ROWS OF INTEGERS OF THE CALL's OWN: copied, marked. (No program here.)
-/
section
set_option linter.unusedVariables false
set_option linter.unusedSimpArgs false
namespace Go.Fl
open Go Ieee Go.RowKit

theorem IRow.alloc {k : IntKind} {w : World} {ao : Option Addr} {n : Nat} {z : Nat → Int} (h : IRow k w ao n z) (o : Obj) : IRow k (w.alloc o) ao n z := h.bel ((Bel.refl w).alloc o)
theorem IRow.only {k : IntKind} {w w' : World} {ao bo : Option Addr} {n : Nat} {z : Nat → Int} (h : IRow k w ao n z) (ho : Only bo w w') (hd : 0 < n → ∀ a b, ao = some a → bo = some b → b.block ≠ a.block) : IRow k w' ao n z := by
  refine ⟨fun hn => ?_, h.wf⟩
  obtain ⟨b, off, h1, h2, h3⟩ := h.at0 hn
  refine ⟨b, off, h1, by rw [ho.size]; exact h2, fun i hi => ?_⟩
  rw [World.cell?_of_block (w := w) (a := ⟨b, off + i, none⟩) (ho.block b (fun a ha => hd hn _ _ h1 ha))]
  exact h3 i hi
/-- a row of integers of the call's own, in a block from 'lo' on and below 'hi' -/
structure IORow (lo hi : Nat) (w : World) (ao : Option Addr) (n : Nat) (z : Nat → Int) : Prop where
  row : IRow .i64 w ao n z
  own : ∀ a, ao = some a → lo ≤ a.block ∧ a.block < hi ∧ a.block < w.heap.size ∧ ∀ j, w.frozen? ⟨a.block, j, none⟩ = false
theorem IORow.bel {lo hi : Nat} {w w' : World} {ao : Option Addr} {n : Nat} {z : Nat → Int} (h : IORow lo hi w ao n z) (hb : Bel w w') : IORow lo hi w' ao n z := by
  refine ⟨h.row.bel hb, fun a ha => ?_⟩
  obtain ⟨h1, h2, h3, h4⟩ := h.own a ha
  refine ⟨h1, h2, Nat.lt_of_lt_of_le h3 hb.size, fun j => ?_⟩
  rw [hb.frozen (p := ⟨a.block, j, none⟩) h3]; exact h4 j
theorem IORow.alloc {lo hi : Nat} {w : World} {ao : Option Addr} {n : Nat} {z : Nat → Int} (h : IORow lo hi w ao n z) (o : Obj) : IORow lo hi (w.alloc o) ao n z := h.bel ((Bel.refl w).alloc o)
theorem IORow.mono {lo hi lo' hi' : Nat} {w : World} {ao : Option Addr} {n : Nat} {z : Nat → Int} (h : IORow lo hi w ao n z) (h1 : lo' ≤ lo) (h2 : hi ≤ hi') : IORow lo' hi' w ao n z :=
  ⟨h.row, fun a ha => by obtain ⟨g1, g2, g3, g4⟩ := h.own a ha; exact ⟨Nat.le_trans h1 g1, Nat.lt_of_lt_of_le g2 h2, g3, g4⟩⟩
theorem IORow.only {lo hi : Nat} {w w' : World} {ao bo : Option Addr} {n : Nat} {z : Nat → Int} (h : IORow lo hi w ao n z) (ho : Only bo w w') (hd : ∀ a b, ao = some a → bo = some b → b.block ≠ a.block) : IORow lo hi w' ao n z := by
  refine ⟨h.row.only ho (fun _ => hd), fun a ha => ?_⟩
  obtain ⟨h1, h2, h3, h4⟩ := h.own a ha
  refine ⟨h1, h2, by rw [ho.size]; exact h3, fun j => ?_⟩
  rw [World.frozen?_of_block (w := w) (a := ⟨a.block, j, none⟩) (ho.block a.block (fun b hb => hd _ _ ha hb))]
  exact h4 j
/-- a row under way: the first 'k' of 'n' are copied -/
structure IFill (w wr : World) (n k : Nat) (z : Nat → Int) : Prop where
  below : Bel w wr
  lt : w.heap.size < wr.heap.size
  cells : ∀ j, j < n → wr.cell? ⟨w.heap.size, j, none⟩ = some (.int .i64 (if j < k then z j else 0))
  thaw : ∀ j, wr.frozen? ⟨w.heap.size, j, none⟩ = false
theorem IFill.start (w : World) (n : Nat) (z : Nat → Int) (e : TypeId) : IFill w (w.alloc (.cells (madeCells #[.int .i64 0] n) e)) n 0 z := by
  refine ⟨(Below.refl _ w).alloc (Nat.le_refl _) _, by simp, fun j hj => ?_, fun j => ?_⟩
  · rw [World.cell?_alloc_at _ _ _ _ rfl]
    simp [madeCells, hj, Nat.mod_one]
  · rw [frozen?_alloc_cells]
    unfold World.frozen?
    simp
theorem IFill.next {w wr : World} {n k : Nat} {z : Nat → Int} (h : IFill w wr n k z) (hk : k < n) : IFill w (wr.setCell ⟨w.heap.size, k, none⟩ (.int .i64 (z k))) n (k + 1) z := by
  refine ⟨Below.setCell h.below (Nat.le_refl _) _, by simpa [World.setCell] using h.lt, fun j hj => ?_, fun j => by rw [World.frozen?_setCell]; exact h.thaw j⟩
  by_cases e : k = j
  · subst e
    rw [World.cell?_setCell_same _ _ _ (h.cells k hk), if_pos (by omega)]
  · rw [World.cell?_setCell_other _ _ _ _ (by intro he; cases he; exact e rfl), h.cells j hj]
    by_cases g : j < k
    · rw [if_pos g, if_pos (by omega)]
    · rw [if_neg g, if_neg (by omega)]
theorem IFill.done {w wr : World} {n : Nat} {z : Nat → Int} (h : IFill w wr n n z) (hw : ∀ i, i < n → (Lit.int .i64 (z i)).wf = true) : IORow w.heap.size wr.heap.size wr (some ⟨w.heap.size, 0, none⟩) n z :=
  ⟨⟨fun hn => ⟨w.heap.size, 0, rfl, h.lt, fun i hi => by rw [Nat.zero_add, h.cells i hi, if_pos hi]⟩, hw⟩, fun a ha => by cases ha; exact ⟨Nat.le_refl _, h.lt, h.lt, h.thaw⟩⟩
def IORet (n : Nat) (z : Nat → Int) (w : World) (e : Ending) (w' : World) : Prop := ∃ ao, e = .returned (.slice ao n n) ∧ IORow w.heap.size w'.heap.size w' ao n z ∧ Bel w w'
/-- the marks 'k', 'k + 1', .. -/
def imarks (k : Nat) : Nat → Int := fun i => ((k + i : Nat) : Int)
structure IMFill (b off : Nat) (w wr : World) (n k i : Nat) (z : Nat → Int) : Prop where
  only : Only (some ⟨b, off, none⟩) w wr
  cells : ∀ j, j < n → wr.cell? ⟨b, off + j, none⟩ = some (.int .i64 (if j < i then ((k + j : Nat) : Int) else z j))
  thaw : ∀ j, wr.frozen? ⟨b, j, none⟩ = false
theorem IMFill.start {lo hi b off : Nat} {w : World} {n k : Nat} {z : Nat → Int} (h : IORow lo hi w (some ⟨b, off, none⟩) n z) (hn : 0 < n) : IMFill b off w w n k 0 z := by
  refine ⟨Only.refl _ _, fun j hj => ?_, (h.own _ rfl).2.2.2⟩
  obtain ⟨b', off', h1, h2, h3⟩ := h.row.at0 hn
  cases h1
  rw [h3 j hj, if_neg (by omega)]
theorem IMFill.next {b off : Nat} {w wr : World} {n k i : Nat} {z : Nat → Int} (h : IMFill b off w wr n k i z) (hi' : i < n) : IMFill b off w (wr.setCell ⟨b, off + i, none⟩ (.int .i64 ((k + i : Nat) : Int))) n k (i + 1) z := by
  refine ⟨h.only.setCell _ _, fun j hj => ?_, fun j => by rw [World.frozen?_setCell]; exact h.thaw j⟩
  by_cases e : i = j
  · subst e
    rw [World.cell?_setCell_same _ _ _ (h.cells i hi'), if_pos (by omega)]
  · rw [World.cell?_setCell_other _ _ _ _ (by intro he; have := congrArg Addr.off he; simp at this; omega), h.cells j hj]
    by_cases g : j < i
    · rw [if_pos g, if_pos (by omega)]
    · rw [if_neg g, if_neg (by omega)]
theorem IMFill.done {lo hi b off : Nat} {w wr : World} {n k : Nat} {z : Nat → Int} (h : IMFill b off w wr n k n z) (hO : IORow lo hi w (some ⟨b, off, none⟩) n z) (hk : k + n ≤ 9223372036854775807) : IORow lo hi wr (some ⟨b, off, none⟩) n (imarks k) := by
  obtain ⟨h1, h2, h3, _⟩ := hO.own _ rfl
  have hs := h.only.size
  refine ⟨⟨fun hn => ⟨b, off, rfl, by rw [hs]; exact h3, fun i hi => by rw [h.cells i hi, if_pos hi]; rfl⟩, fun i hi => ?_⟩, fun a ha => ?_⟩
  · unfold Lit.wf imarks
    rw [Bool.and_eq_true, decide_eq_true_eq, decide_eq_true_eq]
    exact ⟨by show (-9223372036854775808 : Int) ≤ _; omega, by show _ ≤ (9223372036854775807 : Int); omega⟩
  · cases ha; exact ⟨h1, h2, by rw [hs]; exact h3, h.thaw⟩
def IMkRet (lo hi : Nat) (ao : Option Addr) (n k : Nat) (w : World) (e : Ending) (w' : World) : Prop :=
  e = .returned (.int .i64 ((k + n : Nat) : Int)) ∧ IORow lo hi w' ao n (imarks k) ∧ Only ao w w'
/-- two rows that are the same so far -/
def eqI (y z : Nat → Int) : Nat → Bool := allB fun i => y i == z i
theorem eqI_self (z : Nat → Int) (n : Nat) : eqI z z n = true := allB_iff.2 fun i _ => beq_self_eq_true _
end Go.Fl
end

/-
  A REGION THAT DRAWS ITS ORDER, WALKED ONCE, WITH WHAT IS KNOWN OF EACH SLOT AS A SET OF VALUES: an operation may give any value of a set (a not-a-number whose bits the tape draws). One walk in the order of the text serves every order. (No program here.)
-/
section
set_option linter.unusedVariables false
set_option linter.unusedSimpArgs false
namespace Go.Rg
open Go

/-- what is known of the slots -/
abbrev Known := List (Value → Prop)

def Is1 (v : Value) : Value → Prop := fun u => u = v
def Any : Value → Prop := fun _ => True

/-- the frame is as is known -/
def Fits (A : Known) (a : Act) : Prop := A.length = a.tmps.size ∧ ∀ (t : Nat) (S : Value → Prop) (v : Value), A[t]? = some S → a.tmps[t]? = some v → S v
/-- nothing that is known is empty -/
def Sound (A : Known) : Prop := ∀ (t : Nat) (S : Value → Prop), A[t]? = some S → ∃ v, S v

def upd (A : Known) : Option Tmp → (Value → Prop) → Known
  | none, _ => A
  | some d, V => A.set d V

section
variable {P : Program} {ops : Array Oper} {md : Region.Mode} {C : World → Prop} {D : List Deferred}

/-- what an operation has done -/
def Out (P : Program) (C : World → Prop) (V : Value → Prop) : Result Next → Prop
  | .ok (.value u) w' => C w' ∧ V u
  | .ok .skip w' => C w' ∧ V undef
  | .ok (.enter f args) w' => Calls P f args w' (fun e w'' => ∃ u, e = .returned u ∧ V u ∧ C w'')
  | _ => False

/-- in every frame that is as is known, in every world of the class, the operation gives a value of the set -/
def Gives (P : Program) (ops : Array Oper) (C : World → Prop) (o : Oper) (A : Known) (V : Value → Prop) : Prop :=
  ∀ a, Fits A a → (Region.wanted o (yielded ops a.tmps) = true → ∀ w, C w → Out P C V ((execOp a.eval o).run P w)) ∧ (Region.wanted o (yielded ops a.tmps) = false → V undef)

theorem calls_some {f : FuncId} {args : Array Value} {w : World} {R : Ending → World → Prop} (h : Calls P f args w R) : ∃ e w', R e w' := by
  obtain ⟨e, w', _, hr, _⟩ := h []
  exact ⟨e, w', hr⟩

theorem Gives.hits {o : Oper} {A : Known} {V : Value → Prop} (h : Gives P ops C o A V) {a : Act} (ha : Fits A a) {w : World} (hw : C w) : ∃ v, V v := by
  obtain ⟨h1, h2⟩ := h a ha
  cases hwt : Region.wanted o (yielded ops a.tmps)
  · exact ⟨_, h2 hwt⟩
  · have h3 := h1 hwt w hw
    generalize (execOp a.eval o).run P w = r at h3
    cases r with
    | ok n w' =>
      cases n <;> simp only [Out] at h3
      case value u => exact ⟨u, h3.2⟩
      case skip => exact ⟨_, h3.2⟩
      case enter f args =>
        obtain ⟨e, w'', u, _, hu, _⟩ := calls_some h3
        exact ⟨u, hu⟩
    | halt x w' => simp only [Out] at h3

theorem Fits.put {A : Known} {a : Act} (h : Fits A a) {V : Value → Prop} {v : Value} (hv : V v) (d : Option Tmp) : Fits (upd A d V) (a.put d v) := by
  cases d with
  | none => exact h
  | some d =>
    refine ⟨by simp [upd, Act.put, h.1], fun t S u hS hu => ?_⟩
    simp only [upd, Act.put] at hS hu
    rw [List.getElem?_set] at hS
    rw [Array.getElem?_setIfInBounds] at hu
    by_cases hdt : d = t
    · subst hdt
      simp only [if_true] at hS hu
      split at hS
      · cases hS
        split at hu
        · cases hu; exact hv
        · cases hu
      · cases hS
    · rw [if_neg hdt] at hS hu
      exact h.2 t S u hS hu

theorem Sound.upd {A : Known} (h : Sound A) {V : Value → Prop} (hv : ∃ v, V v) (d : Option Tmp) : Sound (upd A d V) := by
  cases d with
  | none => exact h
  | some d =>
    intro t S hS
    simp only [Rg.upd] at hS
    rw [List.getElem?_set] at hS
    split at hS
    · split at hS
      · cases hS; exact hv
      · cases hS
    · exact h t S hS

theorem upd_comm (A : Known) {x y : Option Tmp} (V U : Value → Prop) (h : ∀ d, x = some d → y ≠ some d) : upd (upd A x V) y U = upd (upd A y U) x V := by
  cases x with
  | none => rfl
  | some d =>
    cases y with
    | none => rfl
    | some e =>
      have hne : d ≠ e := fun he => h d rfl (he ▸ rfl)
      exact List.set_comm _ _ hne

/-- THE WALK IN THE ORDER OF THE TEXT -/
def wpR (P : Program) (ops : Array Oper) (C : World → Prop) (Q : Known → Prop) : List Oper → Known → Prop
  | [], A => Q A
  | o :: rest, A => ∃ V, Gives P ops C o A V ∧ wpR P ops C Q rest (upd A o.dst V)

def rOp (P : Program) (ops : Array Oper) (C : World → Prop) (i : Nat) (K : Known → Prop) (A : Known) : Prop :=
  match ops[i]? with
  | none => K A
  | some o => ∃ V, Gives P ops C o A V ∧ K (upd A o.dst V)

theorem rOp_mono {i : Nat} {A : Known} {K K' : Known → Prop} (h : ∀ A, K A → K' A) (hh : rOp P ops C i K A) : rOp P ops C i K' A := by
  unfold rOp at *
  split
  · exact h _ (by simpa [*] using hh)
  · rename_i o ho
    simp only [ho] at hh
    obtain ⟨V, h1, h2⟩ := hh
    exact ⟨V, h1, h _ h2⟩

def wpAnyR (P : Program) (md : Region.Mode) (ops : Array Oper) (C : World → Prop) (Q : Known → Prop) : Nat → Array Bool → Known → Prop
  | 0, listed, A => Region.ready md ops listed = [] ∧ Q A
  | fuel + 1, listed, A =>
    (Region.ready md ops listed = [] → Q A) ∧ ∀ i ∈ Region.ready md ops listed, rOp P ops C i (wpAnyR P md ops C Q fuel (listed.setIfInBounds i true)) A

theorem wpOp_of_rOp {i : Nat} {A : Known} {a : Act} {K : Known → Prop} {K' : Act → World → Prop} {Q' : Exit → Act → World → Prop} {w : World} (hC : C w) (ha : Fits A a)
    (h : ∀ A' a' w', C w' → Fits A' a' → a'.defers = a.defers → K A' → K' a' w') (hh : rOp P ops C i K A) : wpOp P ops Q' i K' a w := by
  unfold rOp at hh
  unfold wpOp
  split
  · rename_i ho; simp only [ho] at hh; exact h _ _ _ hC ha rfl hh
  · rename_i o ho
    simp only [ho] at hh
    obtain ⟨V, hg, hK⟩ := hh
    obtain ⟨g1, g2⟩ := hg a ha
    have pd : ∀ v, (a.put o.dst v).defers = a.defers := fun v => by cases o.dst <;> rfl
    split
    · rename_i hw
      left
      have h3 := g1 hw w hC
      unfold Oper.wp
      generalize (execOp a.eval o).run P w = r at *
      cases r with
      | ok n w' =>
        cases n <;> simp only [Out] at h3 <;> simp only [Oper.upon]
        case value u => exact h _ _ _ h3.1 (ha.put h3.2 _) (pd _) hK
        case skip => exact h _ _ _ h3.1 (ha.put h3.2 _) (pd _) hK
        case enter f args => exact h3.mono fun e w'' ⟨u, he, hu, hw''⟩ => by subst he; exact h _ _ _ hw'' (ha.put hu _) (pd _) hK
      | halt x w' => simp only [Out] at h3
    · rename_i hw
      exact h _ _ _ hC (ha.put (g2 (by simpa using hw)) _) (pd _) hK

theorem wpAny_of_R {Q : Known → Prop} {Q' : Exit → Act → World → Prop} (d0 : List Deferred) (hQ : ∀ A a w, C w → Fits A a → a.defers = d0 → Q A → Q' .normal a w) :
    ∀ (fuel : Nat) (listed : Array Bool) (A : Known) (a : Act) (w : World), C w → Fits A a → a.defers = d0 → wpAnyR P md ops C Q fuel listed A → wpAny P md ops Q' fuel listed a w
  | 0, _, _, _, _, hw, ha, hd, h => ⟨h.1, hQ _ _ _ hw ha hd h.2⟩
  | fuel + 1, _, _, _, _, hw, ha, hd, h =>
    ⟨fun h0 => hQ _ _ _ hw ha hd (h.1 h0), fun i hi => wpOp_of_rOp hw ha (fun A' a' w' hw' ha' hd' hh => wpAny_of_R d0 hQ fuel _ A' a' w' hw' ha' (by rw [hd', hd]) hh) (h.2 i hi)⟩

/-- one operation's set stands when an operation apart from it comes first -/
theorem Gives.back {o q : Oper} {A : Known} {V U : Value → Prop} (hs : ∀ cs b, o.op ≠ .select cs b) (hap : ∀ d, q.dst = some d → d ∉ o.looksAt ops) (hU : ∃ u, U u)
    (h : Gives P ops C o (upd A q.dst U) V) : Gives P ops C o A V := by
  intro a ha
  obtain ⟨u, hu⟩ := hU
  obtain ⟨h1, h2⟩ := h (a.put q.dst u) (ha.put hu _)
  rw [wanted_put o a q.dst u hap] at h1 h2
  rw [execOp_put o hs a q.dst u hap] at h1
  exact ⟨h1, h2⟩

theorem Gives.on {o q : Oper} {A : Known} {V U : Value → Prop} (hs : ∀ cs b, o.op ≠ .select cs b) (hap : ∀ d, q.dst = some d → d ∉ o.looksAt ops) (hA : Sound A)
    (h : Gives P ops C o A V) : Gives P ops C o (upd A q.dst U) V := by
  intro a ha
  cases hd : q.dst with
  | none => rw [hd] at ha; exact h a ha
  | some d =>
    rw [hd] at ha
    -- put back a value that was known
    have hback : ∃ g, Fits A (a.put (some d) g) := by
      cases hS : A[d]? with
      | none =>
        refine ⟨undef, ?_⟩
        have e1 : A.set d U = A := List.set_eq_of_length_le (by rw [List.getElem?_eq_none_iff] at hS; exact hS)
        simp only [upd, e1] at ha
        refine ⟨by simp [Act.put, ha.1], fun t S v hS' hv => ?_⟩
        simp only [Act.put] at hv
        rw [Array.getElem?_setIfInBounds] at hv
        split at hv
        · rename_i hdt; subst hdt; rw [hS] at hS'; cases hS'
        · exact ha.2 t S v hS' hv
      | some S0 =>
        obtain ⟨g, hg⟩ := hA d S0 hS
        refine ⟨g, ?_⟩
        refine ⟨by have := ha.1; simp [upd] at this; simp [Act.put, this], fun t S v hS' hv => ?_⟩
        simp only [Act.put] at hv
        rw [Array.getElem?_setIfInBounds] at hv
        split at hv
        · rename_i hdt
          subst hdt
          split at hv
          · cases hv; rw [hS] at hS'; cases hS'; exact hg
          · cases hv
        · rename_i hdt
          refine ha.2 t S v ?_ hv
          simp only [upd]
          rw [List.getElem?_set, if_neg hdt]; exact hS'
    obtain ⟨g, hg⟩ := hback
    obtain ⟨h1, h2⟩ := h _ hg
    have hap' : ∀ d', (some d : Option Tmp) = some d' → d' ∉ o.looksAt ops := fun d' hd' => hap d' (by rw [hd]; exact hd')
    rw [wanted_put o a (some d) g hap'] at h1 h2
    rw [execOp_put o hs a (some d) g hap'] at h1
    exact ⟨h1, h2⟩

theorem rOp_put {j : Nat} {oi oj : Oper} {V : Value → Prop} (hj : ops[j]? = some oj) (hap : oi.apart ops oj = true)
    (hsi : ∀ cs b, oi.op ≠ .select cs b) (hsj : ∀ cs b, oj.op ≠ .select cs b) {K : Known → Prop} {A : Known} (hA : Sound A) (hne : ∃ a, Fits A a) (hCne : ∃ w, C w)
    (hy : Gives P ops C oi A V) (h : rOp P ops C j K (upd A oi.dst V)) :
    rOp P ops C j (fun A' => (Sound A' ∧ (∃ a, Fits A' a)) ∧ Gives P ops C oi A' V ∧ K (upd A' oi.dst V)) A := by
  obtain ⟨h1, h2, h3⟩ := Oper.apart_spec hap
  obtain ⟨a0, ha0⟩ := hne
  obtain ⟨w0, hw0⟩ := hCne
  unfold rOp at *
  simp only [hj] at *
  obtain ⟨U, g1, g2⟩ := h
  have gj := g1.back hsj h1 (hy.hits ha0 hw0)
  have hUne := gj.hits ha0 hw0
  obtain ⟨u, hu⟩ := hUne
  exact ⟨U, gj, ⟨hA.upd ⟨u, hu⟩ _, ⟨_, ha0.put hu oj.dst⟩⟩, hy.on hsi h3 hA, by rw [← upd_comm A V U h2]; exact g2⟩

theorem wpAnyR_first {Q : Known → Prop} {i : Nat} {oi : Oper} {V : Value → Prop} (hi : ops[i]? = some oi) (hsel : ∀ (j : Nat) (o : Oper) cs b, ops[j]? = some o → o.op ≠ .select cs b) (hCne : ∃ w, C w) :
    ∀ (fuel : Nat) (listed : Array Bool) (A : Known),
      (∀ j oj, ops[j]? = some oj → j ≠ i → listed.getD j true = false → (∀ e ∈ oj.after, Region.binds md e = true → e.on ≠ i) → oi.apart ops oj = true) →
      i ∈ Region.ready md ops listed → (Sound A ∧ ∃ a, Fits A a) → Gives P ops C oi A V →
      wpAnyR P md ops C Q fuel (listed.setIfInBounds i true) (upd A oi.dst V) → wpAnyR P md ops C Q (fuel + 1) listed A := by
  intro fuel
  induction fuel with
  | zero =>
    intro listed A _ hr hA hy H
    refine ⟨fun h => (by rw [h] at hr; cases hr), fun j hj => ?_⟩
    by_cases hji : j = i
    · subst hji; unfold rOp; simp only [hi]; exact ⟨V, hy, H⟩
    · have := ready_mono hj hji
      rw [H.1] at this
      cases this
  | succ fuel ih =>
    intro listed A hfree hr hA hy H
    refine ⟨fun h => (by rw [h] at hr; cases hr), fun j hj => ?_⟩
    by_cases hji : j = i
    · subst hji; unfold rOp; simp only [hi]; exact ⟨V, hy, H⟩
    · have h1 := H.2 j (ready_mono hj hji)
      obtain ⟨hjun, oj, hoj, hall⟩ := mem_ready.1 hj
      have hnot : ∀ e ∈ oj.after, Region.binds md e = true → e.on ≠ i := by
        intro e he hb heq
        have h1 := hall e he hb
        have h0 := (mem_ready.1 hr).1
        rw [heq] at h1
        rcases Nat.lt_or_ge i listed.size with h' | h'
        · simp [h'] at h0 h1; rw [h0] at h1; cases h1
        · simp [Array.getElem?_eq_none h'] at h1
      have h2 := rOp_put hoj (hfree j oj hoj hji hjun hnot) (fun cs b => hsel i oi cs b hi) (fun cs b => hsel j oj cs b hoj) hA.1 hA.2 hCne hy h1
      have hfree' : ∀ k ok, ops[k]? = some ok → k ≠ i → (listed.setIfInBounds j true).getD k true = false →
          (∀ e ∈ ok.after, Region.binds md e = true → e.on ≠ i) → oi.apart ops ok = true := by
        intro k ok hk hki hun hno
        refine hfree k ok hk hki ?_ hno
        by_cases hjk : j = k
        · subst hjk; exact hjun
        · rw [getD_set_ne true hjk] at hun; exact hun
      refine rOp_mono (fun A' h3 => ih (listed.setIfInBounds j true) A' hfree' (ready_mono hr (Ne.symm hji)) h3.1 h3.2.1 ?_) h2
      rw [Array.setIfInBounds_comm _ _ hji]
      exact h3.2.2

theorem wpAnyR_lex {Q : Known → Prop} (hs : Region.noSelect ops = true) (hCne : ∃ w, C w) : ∀ (l : List Oper) (k : Nat) (listed : Array Bool) (A : Known), (∀ j, l[j]? = ops[k + j]?) →
    Region.lexFrom md ops l.length k listed = true → (Sound A ∧ ∃ a, Fits A a) → wpR P ops C Q l A → wpAnyR P md ops C Q l.length listed A
  | [], _, _, _, _, hB, _, h => ⟨by simpa [Region.lexFrom] using hB, h⟩
  | o :: l, k, listed, A, hl, hB, hA, h => by
    have h0 : ops[k]? = some o := by simpa using (hl 0).symm
    simp only [List.length_cons, Region.lexFrom, Bool.and_eq_true] at hB
    obtain ⟨⟨hr, hf⟩, hB'⟩ := hB
    obtain ⟨V, hg, hK⟩ := h
    obtain ⟨hS, a0, ha0⟩ := hA
    obtain ⟨w0, hw0⟩ := hCne
    obtain ⟨v, hv⟩ := hg.hits ha0 hw0
    exact wpAnyR_first h0 (Region.noSelect_spec hs) ⟨w0, hw0⟩ l.length listed A (Region.free_spec h0 hf) (by simpa using hr) ⟨hS, a0, ha0⟩ hg
      (wpAnyR_lex hs ⟨w0, hw0⟩ l (k + 1) _ _ (fun j => by have := hl (j + 1); simpa [Nat.add_assoc, Nat.add_comm 1 j] using this) hB' ⟨hS.upd ⟨v, hv⟩ _, _, ha0.put hv _⟩ hK)

/-- **a region that draws its order, in a world 'w', the slots being 'tmps'** -/
theorem wp_region_R {id : Nat} {Q : Exit → Act → World → Prop} {tmps : List Value} {D : List Deferred} {w : World} {l : List Oper} (hm : P.follows .mixedOrders = true) (hB : Region.lexB .any l.toArray = true)
    (h : wpR P l.toArray (fun w' => ∃ n, w' = w.drewN n) (fun A' => ∀ a' n, Fits A' a' → a'.defers = D → Q .normal a' (w.drewN n)) l (tmps.map Is1)) :
    (Code.region id l.toArray true).wp P Q ⟨tmps.toArray, D⟩ w := by
  simp only [Region.lexB, Bool.and_eq_true] at hB
  have hfit : Fits (tmps.map Is1) ⟨tmps.toArray, D⟩ := by
    refine ⟨by simp, fun t S v hS hv => ?_⟩
    simp at hS hv
    obtain ⟨u, hu, rfl⟩ := hS
    rw [hu] at hv
    cases hv; rfl
  have hsound : Sound (tmps.map Is1) := by
    intro t S hS
    simp at hS
    obtain ⟨u, _, rfl⟩ := hS
    exact ⟨u, rfl⟩
  refine wp_region_any hm (wpAny_of_R (C := fun w' => ∃ n, w' = w.drewN n) (Q := fun A' => ∀ a' n, Fits A' a' → a'.defers = D → Q .normal a' (w.drewN n)) D
    (fun A a w' hw ha hd hq => by obtain ⟨n, rfl⟩ := hw; exact hq a n ha hd) _ _ _ _ _ ⟨1, rfl⟩ hfit rfl ?_)
  have := wpAnyR_lex (C := fun w' => ∃ n, w' = w.drewN n) (md := .any) hB.1 ⟨w, 0, rfl⟩ l 0 (Array.replicate l.length false) (tmps.map Is1) (by simp) (by simpa using hB.2) ⟨hsound, _, hfit⟩ h
  simpa using this

end
end Go.Rg
end

/-
  THE STEPS OF THE WALK THROUGH A REGION THAT DRAWS ITS ORDER, slot by slot as sets. (No program here.)
-/
section
set_option linter.unusedVariables false
set_option linter.unusedSimpArgs false
namespace Go.Rg
open Go Go.Fl

/-- some word for 'X' -/
def IsF (k : FloatKind) (X : Nat) : Value → Prop := fun u => ∃ r, u = .float k r ∧ Is k r X

def slotS (A : Known) : Operand → (Value → Prop)
  | .tmp t => A.getD t (Is1 undef)
  | .const v => Is1 v
  | .global g => Is1 (.pointer (some ⟨g, 0, none⟩))
  | .func f => Is1 (.func (.func f) #[] #[])

theorem fits_eval {A : Known} {a : Act} (h : Fits A a) (x : Operand) : slotS A x (a.eval x) := by
  cases x with
  | tmp t =>
    show (A.getD t (Is1 undef)) (a.tmps.getD t undef)
    rw [List.getD_eq_getElem?_getD, Array.getD_eq_getD_getElem?]
    cases hS : A[t]? with
    | none =>
      have : a.tmps[t]? = none := by
        rw [List.getElem?_eq_none_iff] at hS
        rw [Array.getElem?_eq_none_iff, ← h.1]; exact hS
      rw [this]; rfl
    | some S =>
      have hlt := (List.getElem?_eq_some_iff.1 hS).1
      cases hv : a.tmps[t]? with
      | none => rw [Array.getElem?_eq_none_iff, ← h.1] at hv; omega
      | some v => exact h.2 t S v hS hv
  | const v => rfl
  | global g => rfl
  | func f => rfl

section
variable {P : Program} {ops : Array Oper} {w : World} {Q : Known → Prop} {rest : List Oper} {A : Known} {dst : Option Tmp} {ty : TypeId} {pos : String} {after : Array Edge} {guard : Option (Nat × Bool)} {x y z : Operand} {t t' : TypeId}

/-- the worlds: 'w' after some draws -/
abbrev Cw (w : World) : World → Prop := fun w' => ∃ n, w' = w.drewN n

/-- the guard says yes in every frame that is as is known -/
def Yes (ops : Array Oper) (A : Known) (o : Oper) : Prop := ∀ a, Fits A a → Region.wanted o (yielded ops a.tmps) = true

theorem yes_none {o : Op} : Yes ops A ⟨dst, o, ty, pos, after, none⟩ := fun _ _ => rfl
theorem guard_is {j d : Nat} {c : Bool} (h1 : (ops[j]?).bind (·.dst) = some d) (h2 : A[d]? = some (Is1 (.bool c))) {a : Act} (ha : Fits A a) : yielded ops a.tmps j = some c := by
  unfold yielded
  rw [h1]
  have hlt := (List.getElem?_eq_some_iff.1 h2).1
  cases hv : a.tmps[d]? with
  | none => rw [Array.getElem?_eq_none_iff, ← ha.1] at hv; omega
  | some v =>
    have := ha.2 d _ v h2 hv
    show (match a.tmps[d]? with | some (.bool b) => some b | _ => none) = some c
    rw [hv]
    have e : v = .bool c := this
    rw [e]
theorem yes_some {o : Op} {j d : Nat} {b : Bool} (h1 : (ops[j]?).bind (·.dst) = some d) (h2 : A[d]? = some (Is1 (.bool b))) : Yes ops A ⟨dst, o, ty, pos, after, some (j, b)⟩ := by
  intro a ha
  show (yielded ops a.tmps j == some b) = true
  rw [guard_is h1 h2 ha]; simp

theorem wpR_skip {o : Op} {j d : Nat} {b c : Bool} (h1 : (ops[j]?).bind (·.dst) = some d) (h2 : A[d]? = some (Is1 (.bool c))) (hne : (c == b) = false)
    (h : wpR P ops (Cw w) Q rest (upd A dst (Is1 undef))) : wpR P ops (Cw w) Q (⟨dst, o, ty, pos, after, some (j, b)⟩ :: rest) A := by
  refine ⟨_, ?_, h⟩
  intro a ha
  have e : Region.wanted ⟨dst, o, ty, pos, after, some (j, b)⟩ (yielded ops a.tmps) = false := by
    show (yielded ops a.tmps j == some b) = false
    rw [guard_is h1 h2 ha]; simpa using hne
  rw [e]
  exact ⟨fun h => (by cases h), fun _ => rfl⟩

theorem gives_run {o : Oper} {V : Value → Prop} (hy : Yes ops A o) (h : ∀ a, Fits A a → ∀ n, ∃ u m, (execOp a.eval o).run P (w.drewN n) = .ok (.value u) (w.drewN m) ∧ V u) : Gives P ops (Cw w) o A V := by
  intro a ha
  rw [hy a ha]
  refine ⟨fun _ w' hw' => ?_, fun h => by cases h⟩
  obtain ⟨n, rfl⟩ := hw'
  obtain ⟨u, m, h1, h2⟩ := h a ha n
  rw [h1]
  exact ⟨⟨m, rfl⟩, h2⟩

theorem wpR_move (hy : Yes ops A ⟨dst, .move x, ty, pos, after, guard⟩) {S : Value → Prop} (hS : slotS A x = S) (h : wpR P ops (Cw w) Q rest (upd A dst S)) :
    wpR P ops (Cw w) Q (⟨dst, .move x, ty, pos, after, guard⟩ :: rest) A := by
  subst hS
  exact ⟨_, gives_run hy fun a ha n => ⟨_, n, rfl, fits_eval ha x⟩, h⟩
theorem wpR_assign (hy : Yes ops A ⟨dst, .assign x, ty, pos, after, guard⟩) {S : Value → Prop} (hS : slotS A x = S) (h : wpR P ops (Cw w) Q rest (upd A dst S)) :
    wpR P ops (Cw w) Q (⟨dst, .assign x, ty, pos, after, guard⟩ :: rest) A := by
  subst hS
  exact ⟨_, gives_run hy fun a ha n => ⟨_, n, rfl, fits_eval ha x⟩, h⟩
theorem wpR_pick {c : Bool} (hy : Yes ops A ⟨dst, .pick x y z, ty, pos, after, guard⟩) (hc : slotS A x = Is1 (.bool c)) {S : Value → Prop} (hS : slotS A (if c then y else z) = S)
    (h : wpR P ops (Cw w) Q rest (upd A dst S)) : wpR P ops (Cw w) Q (⟨dst, .pick x y z, ty, pos, after, guard⟩ :: rest) A := by
  subst hS
  refine ⟨_, gives_run hy fun a ha n => ⟨a.eval (if c then y else z), n, ?_, fits_eval ha _⟩, h⟩
  have e : a.eval x = .bool c := by have := fits_eval ha x; rw [hc] at this; exact this
  cases c <;> simp [execOp, e, asBool]

/-- a set of words for 'X' -/
def SubF (S : Value → Prop) (k : FloatKind) (X : Nat) : Prop := ∀ v, S v → ∃ b, v = .float k b ∧ Is k b X
theorem subF_is (k : FloatKind) (X : Nat) : SubF (IsF k X) k X := fun v h => h
theorem subF_eq {k : FloatKind} {b X : Nat} (h : Is k b X) : SubF (Is1 (.float k b)) k X := fun v hv => ⟨b, hv, h⟩

theorem sub_eval {S : Value → Prop} {k : FloatKind} {X : Nat} {a : Act} (ha : Fits A a) (hS : slotS A x = S) (h : SubF S k X) : ∃ b, a.eval x = .float k b ∧ Is k b X := by
  subst hS; exact h _ (fits_eval ha x)

theorem wpR_fop {op : BinOp} (hop : op = .add ∨ op = .sub ∨ op = .mul ∨ op = .quo) {k : FloatKind} {X Y : Nat} {S T : Value → Prop} (hy : Yes ops A ⟨dst, .binOp op t x y t', ty, pos, after, guard⟩)
    (hS : slotS A x = S) (hT : slotS A y = T) (hX : SubF S k X) (hY : SubF T k Y) (h : wpR P ops (Cw w) Q rest (upd A dst (IsF k (fop op k X Y)))) :
    wpR P ops (Cw w) Q (⟨dst, .binOp op t x y t', ty, pos, after, guard⟩ :: rest) A := by
  refine ⟨_, gives_run hy fun a ha n => ?_, h⟩
  obtain ⟨b, e1, h1⟩ := sub_eval ha hS hX
  obtain ⟨c, e2, h2⟩ := sub_eval ha hT hY
  obtain ⟨r, m, hrun, hr⟩ := run_fop (P := P) (w.drewN n) op hop t k b c
  rw [h1.2, h2.2] at hr
  rw [World.drewN_drewN] at hrun
  exact ⟨_, _, run_exec_binOp e1 e2 hrun, r, rfl, hr⟩
theorem wpR_fadd {k : FloatKind} {X Y : Nat} {S T : Value → Prop} (hy : Yes ops A ⟨dst, .binOp .add t x y t', ty, pos, after, guard⟩)
    (hS : slotS A x = S) (hT : slotS A y = T) (hX : SubF S k X) (hY : SubF T k Y) (h : wpR P ops (Cw w) Q rest (upd A dst (IsF k (fop .add k X Y)))) :
    wpR P ops (Cw w) Q (⟨dst, .binOp .add t x y t', ty, pos, after, guard⟩ :: rest) A := wpR_fop (by simp) hy hS hT hX hY h
theorem wpR_fsub {k : FloatKind} {X Y : Nat} {S T : Value → Prop} (hy : Yes ops A ⟨dst, .binOp .sub t x y t', ty, pos, after, guard⟩)
    (hS : slotS A x = S) (hT : slotS A y = T) (hX : SubF S k X) (hY : SubF T k Y) (h : wpR P ops (Cw w) Q rest (upd A dst (IsF k (fop .sub k X Y)))) :
    wpR P ops (Cw w) Q (⟨dst, .binOp .sub t x y t', ty, pos, after, guard⟩ :: rest) A := wpR_fop (by simp) hy hS hT hX hY h
theorem wpR_fmul {k : FloatKind} {X Y : Nat} {S T : Value → Prop} (hy : Yes ops A ⟨dst, .binOp .mul t x y t', ty, pos, after, guard⟩)
    (hS : slotS A x = S) (hT : slotS A y = T) (hX : SubF S k X) (hY : SubF T k Y) (h : wpR P ops (Cw w) Q rest (upd A dst (IsF k (fop .mul k X Y)))) :
    wpR P ops (Cw w) Q (⟨dst, .binOp .mul t x y t', ty, pos, after, guard⟩ :: rest) A := wpR_fop (by simp) hy hS hT hX hY h
theorem wpR_fquo {k : FloatKind} {X Y : Nat} {S T : Value → Prop} (hy : Yes ops A ⟨dst, .binOp .quo t x y t', ty, pos, after, guard⟩)
    (hS : slotS A x = S) (hT : slotS A y = T) (hX : SubF S k X) (hY : SubF T k Y) (h : wpR P ops (Cw w) Q rest (upd A dst (IsF k (fop .quo k X Y)))) :
    wpR P ops (Cw w) Q (⟨dst, .binOp .quo t x y t', ty, pos, after, guard⟩ :: rest) A := wpR_fop (by simp) hy hS hT hX hY h

theorem wpR_cmp {op : BinOp} {k : FloatKind} {X Y : Nat} {S T : Value → Prop} {c : Bool} (hc : ∀ b d, Is k b X → Is k d Y → binOp op t (.float k b) (.float k d) = pure (.bool c))
    (hy : Yes ops A ⟨dst, .binOp op t x y t', ty, pos, after, guard⟩)
    (hS : slotS A x = S) (hT : slotS A y = T) (hX : SubF S k X) (hY : SubF T k Y) (h : wpR P ops (Cw w) Q rest (upd A dst (Is1 (.bool c)))) :
    wpR P ops (Cw w) Q (⟨dst, .binOp op t x y t', ty, pos, after, guard⟩ :: rest) A := by
  refine ⟨_, gives_run hy fun a ha n => ?_, h⟩
  obtain ⟨b, e1, h1⟩ := sub_eval ha hS hX
  obtain ⟨d, e2, h2⟩ := sub_eval ha hT hY
  exact ⟨_, n, run_exec_binOp e1 e2 (by rw [hc b d h1 h2]; rfl), rfl⟩
theorem wpR_feq {k : FloatKind} {X Y : Nat} {S T : Value → Prop} (hy : Yes ops A ⟨dst, .binOp .eql t x y t', ty, pos, after, guard⟩)
    (hS : slotS A x = S) (hT : slotS A y = T) (hX : SubF S k X) (hY : SubF T k Y) (h : wpR P ops (Cw w) Q rest (upd A dst (Is1 (.bool (feq k X Y))))) :
    wpR P ops (Cw w) Q (⟨dst, .binOp .eql t x y t', ty, pos, after, guard⟩ :: rest) A :=
  wpR_cmp (fun b d h1 h2 => by rw [binOp_float_cmp_eql, ord_is h1 h2]; unfold feq; rfl) hy hS hT hX hY h
theorem wpR_fne {k : FloatKind} {X Y : Nat} {S T : Value → Prop} (hy : Yes ops A ⟨dst, .binOp .neq t x y t', ty, pos, after, guard⟩)
    (hS : slotS A x = S) (hT : slotS A y = T) (hX : SubF S k X) (hY : SubF T k Y) (h : wpR P ops (Cw w) Q rest (upd A dst (Is1 (.bool (fne k X Y))))) :
    wpR P ops (Cw w) Q (⟨dst, .binOp .neq t x y t', ty, pos, after, guard⟩ :: rest) A :=
  wpR_cmp (fun b d h1 h2 => by rw [binOp_float_cmp_neq, ord_is h1 h2]; unfold fne; rfl) hy hS hT hX hY h
theorem wpR_flt {k : FloatKind} {X Y : Nat} {S T : Value → Prop} (hy : Yes ops A ⟨dst, .binOp .lss t x y t', ty, pos, after, guard⟩)
    (hS : slotS A x = S) (hT : slotS A y = T) (hX : SubF S k X) (hY : SubF T k Y) (h : wpR P ops (Cw w) Q rest (upd A dst (Is1 (.bool (flt k X Y))))) :
    wpR P ops (Cw w) Q (⟨dst, .binOp .lss t x y t', ty, pos, after, guard⟩ :: rest) A :=
  wpR_cmp (fun b d h1 h2 => by rw [binOp_float_cmp_lss, ord_is h1 h2]; unfold flt; rfl) hy hS hT hX hY h
theorem wpR_fgt {k : FloatKind} {X Y : Nat} {S T : Value → Prop} (hy : Yes ops A ⟨dst, .binOp .gtr t x y t', ty, pos, after, guard⟩)
    (hS : slotS A x = S) (hT : slotS A y = T) (hX : SubF S k X) (hY : SubF T k Y) (h : wpR P ops (Cw w) Q rest (upd A dst (Is1 (.bool (fgt k X Y))))) :
    wpR P ops (Cw w) Q (⟨dst, .binOp .gtr t x y t', ty, pos, after, guard⟩ :: rest) A :=
  wpR_cmp (fun b d h1 h2 => by rw [binOp_float_cmp_gtr, ord_is h1 h2]; unfold fgt; rfl) hy hS hT hX hY h
theorem wpR_fge {k : FloatKind} {X Y : Nat} {S T : Value → Prop} (hy : Yes ops A ⟨dst, .binOp .geq t x y t', ty, pos, after, guard⟩)
    (hS : slotS A x = S) (hT : slotS A y = T) (hX : SubF S k X) (hY : SubF T k Y) (h : wpR P ops (Cw w) Q rest (upd A dst (Is1 (.bool (fge k X Y))))) :
    wpR P ops (Cw w) Q (⟨dst, .binOp .geq t x y t', ty, pos, after, guard⟩ :: rest) A :=
  wpR_cmp (fun b d h1 h2 => by rw [binOp_float_cmp_geq, ord_is h1 h2]; unfold fge; rfl) hy hS hT hX hY h

theorem wpR_widen {src d : TypeId} {us : TypeDesc} (hs : P.underlying src = some us) (hd : P.underlying d = some (.float .f64)) {X : Nat} {S : Value → Prop}
    (hy : Yes ops A ⟨dst, .convert src d x, ty, pos, after, guard⟩) (hS : slotS A x = S) (hX : SubF S .f32 X) (h : wpR P ops (Cw w) Q rest (upd A dst (IsF .f64 (wid X)))) :
    wpR P ops (Cw w) Q (⟨dst, .convert src d x, ty, pos, after, guard⟩ :: rest) A := by
  refine ⟨_, gives_run hy fun a ha n => ?_, h⟩
  obtain ⟨b, e1, h1⟩ := sub_eval ha hS hX
  obtain ⟨r, m, hrun, hr⟩ := run_conv (P := P) (w.drewN n) src d .f32 .f64 (by decide) hs hd b (widen_ok h1.1)
  rw [h1.2] at hr
  rw [World.drewN_drewN] at hrun
  refine ⟨.float .f64 r, n + m, ?_, r, rfl, ?_⟩
  · simp [execOp, e1, hrun]
  · unfold wid; exact hr

/-- any operation all of whose operands are known outright: one operand, two -/
theorem wpR_one {o : Op} {v u : Value} (x : Operand) (hy : Yes ops A ⟨dst, o, ty, pos, after, guard⟩) (hx : slotS A x = Is1 v)
    (hrun : ∀ (ρ : Operand → Value) (n : Nat), ρ x = v → (execOp ρ ⟨dst, o, ty, pos, after, guard⟩).run P (w.drewN n) = .ok (.value u) (w.drewN n)) (h : wpR P ops (Cw w) Q rest (upd A dst (Is1 u))) :
    wpR P ops (Cw w) Q (⟨dst, o, ty, pos, after, guard⟩ :: rest) A := by
  refine ⟨Is1 u, gives_run hy fun a ha n => ⟨u, n, hrun a.eval n ?_, rfl⟩, h⟩
  have := fits_eval ha x; rw [hx] at this; exact this
theorem wpR_two {o : Op} {v v' u : Value} (x y : Operand) (hy : Yes ops A ⟨dst, o, ty, pos, after, guard⟩) (hx : slotS A x = Is1 v) (hx' : slotS A y = Is1 v')
    (hrun : ∀ (ρ : Operand → Value) (n : Nat), ρ x = v → ρ y = v' → (execOp ρ ⟨dst, o, ty, pos, after, guard⟩).run P (w.drewN n) = .ok (.value u) (w.drewN n)) (h : wpR P ops (Cw w) Q rest (upd A dst (Is1 u))) :
    wpR P ops (Cw w) Q (⟨dst, o, ty, pos, after, guard⟩ :: rest) A := by
  refine ⟨Is1 u, gives_run hy fun a ha n => ⟨u, n, hrun a.eval n ?_ ?_, rfl⟩, h⟩
  · have := fits_eval ha x; rw [hx] at this; exact this
  · have := fits_eval ha y; rw [hx'] at this; exact this

theorem wpR_indexAddr {v v' u : Value} (hy : Yes ops A ⟨dst, .indexAddr t x y, ty, pos, after, guard⟩) (hx : slotS A x = Is1 v) (hx' : slotS A y = Is1 v')
    (hrun : ∀ (ρ : Operand → Value) (n : Nat), ρ x = v → ρ y = v' → (execOp ρ ⟨dst, .indexAddr t x y, ty, pos, after, guard⟩).run P (w.drewN n) = .ok (.value u) (w.drewN n)) (h : wpR P ops (Cw w) Q rest (upd A dst (Is1 u))) :
    wpR P ops (Cw w) Q (⟨dst, .indexAddr t x y, ty, pos, after, guard⟩ :: rest) A := wpR_two x y hy hx hx' hrun h
theorem wpR_binOp {bo : BinOp} {v v' u : Value} (hy : Yes ops A ⟨dst, .binOp bo t x y t', ty, pos, after, guard⟩) (hx : slotS A x = Is1 v) (hx' : slotS A y = Is1 v')
    (hrun : ∀ (ρ : Operand → Value) (n : Nat), ρ x = v → ρ y = v' → (execOp ρ ⟨dst, .binOp bo t x y t', ty, pos, after, guard⟩).run P (w.drewN n) = .ok (.value u) (w.drewN n)) (h : wpR P ops (Cw w) Q rest (upd A dst (Is1 u))) :
    wpR P ops (Cw w) Q (⟨dst, .binOp bo t x y t', ty, pos, after, guard⟩ :: rest) A := wpR_two x y hy hx hx' hrun h
theorem wpR_load {v u : Value} (hy : Yes ops A ⟨dst, .load t x, ty, pos, after, guard⟩) (hx : slotS A x = Is1 v)
    (hrun : ∀ (ρ : Operand → Value) (n : Nat), ρ x = v → (execOp ρ ⟨dst, .load t x, ty, pos, after, guard⟩).run P (w.drewN n) = .ok (.value u) (w.drewN n)) (h : wpR P ops (Cw w) Q rest (upd A dst (Is1 u))) :
    wpR P ops (Cw w) Q (⟨dst, .load t x, ty, pos, after, guard⟩ :: rest) A := wpR_one x hy hx hrun h
theorem wpR_unOp {uo : UnOp} {v u : Value} (hy : Yes ops A ⟨dst, .unOp uo t x, ty, pos, after, guard⟩) (hx : slotS A x = Is1 v)
    (hrun : ∀ (ρ : Operand → Value) (n : Nat), ρ x = v → (execOp ρ ⟨dst, .unOp uo t x, ty, pos, after, guard⟩).run P (w.drewN n) = .ok (.value u) (w.drewN n)) (h : wpR P ops (Cw w) Q rest (upd A dst (Is1 u))) :
    wpR P ops (Cw w) Q (⟨dst, .unOp uo t x, ty, pos, after, guard⟩ :: rest) A := wpR_one x hy hx hrun h
theorem wpR_convert {v u : Value} (hy : Yes ops A ⟨dst, .convert t t' x, ty, pos, after, guard⟩) (hx : slotS A x = Is1 v)
    (hrun : ∀ (ρ : Operand → Value) (n : Nat), ρ x = v → (execOp ρ ⟨dst, .convert t t' x, ty, pos, after, guard⟩).run P (w.drewN n) = .ok (.value u) (w.drewN n)) (h : wpR P ops (Cw w) Q rest (upd A dst (Is1 u))) :
    wpR P ops (Cw w) Q (⟨dst, .convert t t' x, ty, pos, after, guard⟩ :: rest) A := wpR_one x hy hx hrun h
theorem wpR_field {fi : Nat} {v u : Value} (hy : Yes ops A ⟨dst, .field t x fi, ty, pos, after, guard⟩) (hx : slotS A x = Is1 v)
    (hrun : ∀ (ρ : Operand → Value) (n : Nat), ρ x = v → (execOp ρ ⟨dst, .field t x fi, ty, pos, after, guard⟩).run P (w.drewN n) = .ok (.value u) (w.drewN n)) (h : wpR P ops (Cw w) Q rest (upd A dst (Is1 u))) :
    wpR P ops (Cw w) Q (⟨dst, .field t x fi, ty, pos, after, guard⟩ :: rest) A := wpR_one x hy hx hrun h
theorem wpR_fieldAddr {fi : Nat} {v u : Value} (hy : Yes ops A ⟨dst, .fieldAddr t x fi, ty, pos, after, guard⟩) (hx : slotS A x = Is1 v)
    (hrun : ∀ (ρ : Operand → Value) (n : Nat), ρ x = v → (execOp ρ ⟨dst, .fieldAddr t x fi, ty, pos, after, guard⟩).run P (w.drewN n) = .ok (.value u) (w.drewN n)) (h : wpR P ops (Cw w) Q rest (upd A dst (Is1 u))) :
    wpR P ops (Cw w) Q (⟨dst, .fieldAddr t x fi, ty, pos, after, guard⟩ :: rest) A := wpR_one x hy hx hrun h
theorem wpR_nilCheck {v u : Value} (hy : Yes ops A ⟨dst, .nilCheck x, ty, pos, after, guard⟩) (hx : slotS A x = Is1 v)
    (hrun : ∀ (ρ : Operand → Value) (n : Nat), ρ x = v → (execOp ρ ⟨dst, .nilCheck x, ty, pos, after, guard⟩).run P (w.drewN n) = .ok (.value u) (w.drewN n)) (h : wpR P ops (Cw w) Q rest (upd A dst (Is1 u))) :
    wpR P ops (Cw w) Q (⟨dst, .nilCheck x, ty, pos, after, guard⟩ :: rest) A := wpR_one x hy hx hrun h
theorem wpR_builtin1 {bi : Builtin} {ats : Array TypeId} {v u : Value} (hy : Yes ops A ⟨dst, .call { callee := .builtin bi, args := #[x], argTypes := ats }, ty, pos, after, guard⟩) (hx : slotS A x = Is1 v)
    (hrun : ∀ (ρ : Operand → Value) (n : Nat), ρ x = v → (execOp ρ ⟨dst, .call { callee := .builtin bi, args := #[x], argTypes := ats }, ty, pos, after, guard⟩).run P (w.drewN n) = .ok (.value u) (w.drewN n)) (h : wpR P ops (Cw w) Q rest (upd A dst (Is1 u))) :
    wpR P ops (Cw w) Q (⟨dst, .call { callee := .builtin bi, args := #[x], argTypes := ats }, ty, pos, after, guard⟩ :: rest) A := wpR_one x hy hx hrun h

/-- a call of a named function: two arguments, one -/
theorem wpR_call2 {f : FuncId} {ats : Array TypeId} {S T V : Value → Prop} (hin : ∀ (xs : Array Value) (w' : World), (callFunc f xs).run P w' = .ok (.enter f xs) w')
    (hy : Yes ops A ⟨dst, .call { callee := .value (.func f), args := #[x, y], argTypes := ats }, ty, pos, after, guard⟩) (hS : slotS A x = S) (hT : slotS A y = T)
    (hcall : ∀ u v n, S u → T v → Calls P f #[u, v] (w.drewN n) fun e w'' => ∃ r, e = .returned r ∧ V r ∧ ∃ m, w'' = w.drewN m) (h : wpR P ops (Cw w) Q rest (upd A dst V)) :
    wpR P ops (Cw w) Q (⟨dst, .call { callee := .value (.func f), args := #[x, y], argTypes := ats }, ty, pos, after, guard⟩ :: rest) A := by
  subst hS; subst hT
  refine ⟨_, ?_, h⟩
  intro a ha
  rw [hy a ha]
  refine ⟨fun _ w' hw' => ?_, fun h => by cases h⟩
  obtain ⟨n, rfl⟩ := hw'
  rw [execOp_call_go]
  have e : (#[] ++ Array.map a.eval #[x, y] ++ #[] : Array Value) = #[a.eval x, a.eval y] := by simp
  rw [e, hin]
  exact hcall _ _ n (fits_eval ha x) (fits_eval ha y)
theorem wpR_call1 {f : FuncId} {ats : Array TypeId} {S V : Value → Prop} (hin : ∀ (xs : Array Value) (w' : World), (callFunc f xs).run P w' = .ok (.enter f xs) w')
    (hy : Yes ops A ⟨dst, .call { callee := .value (.func f), args := #[x], argTypes := ats }, ty, pos, after, guard⟩) (hS : slotS A x = S)
    (hcall : ∀ u n, S u → Calls P f #[u] (w.drewN n) fun e w'' => ∃ r, e = .returned r ∧ V r ∧ ∃ m, w'' = w.drewN m) (h : wpR P ops (Cw w) Q rest (upd A dst V)) :
    wpR P ops (Cw w) Q (⟨dst, .call { callee := .value (.func f), args := #[x], argTypes := ats }, ty, pos, after, guard⟩ :: rest) A := by
  subst hS
  refine ⟨_, ?_, h⟩
  intro a ha
  rw [hy a ha]
  refine ⟨fun _ w' hw' => ?_, fun h => by cases h⟩
  obtain ⟨n, rfl⟩ := hw'
  rw [execOp_call_go]
  have e : (#[] ++ Array.map a.eval #[x] ++ #[] : Array Value) = #[a.eval x] := by simp
  rw [e, hin]
  exact hcall _ n (fits_eval ha x)

theorem enters {f : FuncId} {fn : Func} (hf : P.funcs[f]? = some fn) (h1 : (fn.name == "runtime.NumGoroutine") = false) (h2 : fn.body.isNone = false) (xs : Array Value) (w' : World) :
    (callFunc f xs).run P w' = .ok (.enter f xs) w' := by
  have h1' : fn.name ≠ "runtime.NumGoroutine" := by simpa using h1
  have h2' : ¬ fn.body = none := by intro e; rw [e] at h2; simp at h2
  simp [callFunc, hf, h1', h2']

theorem of_vret {f : FuncId} {args : Array Value} {n : Nat} {v : Value} {V : Value → Prop} (h : Calls P f args (w.drewN n) (VRet v (w.drewN n))) (hv : V v) :
    Calls P f args (w.drewN n) fun e w'' => ∃ r, e = .returned r ∧ V r ∧ ∃ m, w'' = w.drewN m := by
  refine h.mono ?_
  rintro e w'' ⟨h3, m, h4⟩
  exact ⟨_, h3, hv, n + m, by rw [h4, World.drewN_drewN]⟩
theorem of_fret {f : FuncId} {args : Array Value} {n : Nat} {k : FloatKind} {X : Nat} (h : Calls P f args (w.drewN n) (FRet k X (w.drewN n))) :
    Calls P f args (w.drewN n) fun e w'' => ∃ r, e = .returned r ∧ IsF k X r ∧ ∃ m, w'' = w.drewN m := by
  refine h.mono ?_
  rintro e w'' ⟨r, h3, hr, m, h4⟩
  exact ⟨_, h3, ⟨r, rfl, hr⟩, n + m, by rw [h4, World.drewN_drewN]⟩

/-! ### behind the region -/
inductive All2 : Known → List Value → Prop
  | nil : All2 [] []
  | cons {S : Value → Prop} {v : Value} {A : Known} {l : List Value} (h : S v) (r : All2 A l) : All2 (S :: A) (v :: l)

theorem all2_of : ∀ (A : Known) (l : List Value), A.length = l.length → (∀ (t : Nat) (S : Value → Prop) (v : Value), A[t]? = some S → l[t]? = some v → S v) → All2 A l
  | [], [], _, _ => .nil
  | [], _ :: _, h, _ => by cases h
  | _ :: _, [], h, _ => by cases h
  | S :: A, v :: l, h, H => .cons (H 0 S v rfl rfl) (all2_of A l (by simpa using h) fun t S' v' h1 h2 => H (t + 1) S' v' (by simpa using h1) (by simpa using h2))

theorem wpR_end {Q' : Exit → Act → World → Prop} {D : List Deferred} (h : ∀ n l, All2 A l → Q' .normal ⟨l.toArray, D⟩ (w.drewN n)) :
    wpR P ops (Cw w) (fun A' => ∀ a' n, Fits A' a' → a'.defers = D → Q' .normal a' (w.drewN n)) [] A := by
  intro a' n ha hd
  obtain ⟨tmps, defers⟩ := a'
  cases hd
  have := h n tmps.toList (all2_of _ _ (by simpa using ha.1) fun t S v h1 h2 => ha.2 t S v h1 (by simpa using h2))
  simpa using this

theorem all2_is1 {G : List Value → Prop} {c : Value} (h : ∀ l, All2 A l → G (c :: l)) : ∀ l, All2 (Is1 c :: A) l → G l := by
  intro l hl
  cases hl with
  | cons h1 r => cases h1; exact h _ r
theorem all2_isF {G : List Value → Prop} {k : FloatKind} {X : Nat} (h : ∀ b, Is k b X → ∀ l, All2 A l → G (.float k b :: l)) : ∀ l, All2 (IsF k X :: A) l → G l := by
  intro l hl
  cases hl with
  | cons h1 r => obtain ⟨b, rfl, hb⟩ := h1; exact h b hb _ r
theorem all2_nil {G : List Value → Prop} (h : G []) : ∀ l, All2 [] l → G l := by
  intro l hl
  cases hl; exact h
end
end Go.Rg
end

/-
  A REGION THAT DRAWS ITS ORDER AND WHOSE OPERATIONS MAY MAKE MEMORY, WALKED ONCE: what is known of each slot is a set of values that a growing world only widens; the last operations, which stand in one forced order, are walked behind it. (No program here.)
-/
section
set_option linter.unusedVariables false
set_option linter.unusedSimpArgs false
namespace Go.Rk
open Go Go.Fl

abbrev KSet := World → Value → Prop
abbrev Known := List KSet
def Is1 (v : Value) : KSet := fun _ u => u = v
def IsF (k : FloatKind) (X : Nat) : KSet := fun _ u => ∃ r, u = .float k r ∧ Is k r X

def FitsOn (L : List Tmp) (A : Known) (w : World) (a : Act) : Prop := A.length = a.tmps.size ∧ ∀ (t : Nat), t ∈ L → ∀ (S : KSet) (v : Value), A[t]? = some S → a.tmps[t]? = some v → S w v
def Fits (A : Known) (w : World) (a : Act) : Prop := A.length = a.tmps.size ∧ ∀ (t : Nat) (S : KSet) (v : Value), A[t]? = some S → a.tmps[t]? = some v → S w v
theorem Fits.on {A : Known} {w : World} {a : Act} (h : Fits A w a) (L : List Tmp) : FitsOn L A w a := ⟨h.1, fun t _ => h.2 t⟩

def upd (A : Known) : Option Tmp → KSet → Known
  | none, _ => A
  | some d, V => A.set d V
theorem upd_len (A : Known) (d : Option Tmp) (V : KSet) : (upd A d V).length = A.length := by cases d <;> simp [upd]
theorem upd_comm (A : Known) {x y : Option Tmp} (V U : KSet) (h : ∀ d, x = some d → y ≠ some d) : upd (upd A x V) y U = upd (upd A y U) x V := by
  cases x with
  | none => rfl
  | some d =>
    cases y with
    | none => rfl
    | some e =>
      have hne : d ≠ e := fun he => h d rfl (he ▸ rfl)
      exact List.set_comm _ _ hne
theorem fitsOn_upd {L : List Tmp} {A : Known} {w : World} {a : Act} {d : Option Tmp} {V : KSet} (hd : ∀ t, d = some t → t ∉ L) : FitsOn L (upd A d V) w a ↔ FitsOn L A w a := by
  unfold FitsOn
  rw [upd_len]
  refine and_congr Iff.rfl ?_
  refine forall_congr' fun t => forall_congr' fun ht => ?_
  have e : (upd A d V)[t]? = A[t]? := by
    cases d with
    | none => rfl
    | some d =>
      have hne : d ≠ t := fun h => hd d rfl (h ▸ ht)
      simp only [upd]
      rw [List.getElem?_set, if_neg hne]
  rw [e]

section
variable {P : Program} {ops : Array Oper} {md : Region.Mode} {Le : World → World → Prop}

def Mon (Le : World → World → Prop) (S : KSet) : Prop := ∀ w w' v, Le w w' → S w v → S w' v
def AllMon (Le : World → World → Prop) (A : Known) : Prop := ∀ (t : Nat) (S : KSet), A[t]? = some S → Mon Le S
theorem AllMon.upd {A : Known} (h : AllMon Le A) {V : KSet} (hV : Mon Le V) (d : Option Tmp) : AllMon Le (Rk.upd A d V) := by
  cases d with
  | none => exact h
  | some d =>
    intro t S hS
    simp only [Rk.upd] at hS
    rw [List.getElem?_set] at hS
    split at hS
    · split at hS
      · cases hS; exact hV
      · cases hS
    · exact h t S hS

theorem Fits.put {A : Known} {w w' : World} {a : Act} (hA : AllMon Le A) (h : Fits A w a) (hle : Le w w') {V : KSet} {v : Value} (hv : V w' v) (d : Option Tmp) : Fits (upd A d V) w' (a.put d v) := by
  cases d with
  | none => exact ⟨h.1, fun t S u hS hu => hA t S hS w w' u hle (h.2 t S u hS hu)⟩
  | some d =>
    refine ⟨by simp [upd, Act.put, h.1], fun t S u hS hu => ?_⟩
    simp only [upd, Act.put] at hS hu
    rw [List.getElem?_set] at hS
    rw [Array.getElem?_setIfInBounds] at hu
    by_cases hdt : d = t
    · subst hdt
      simp only [if_true] at hS hu
      split at hS
      · cases hS
        split at hu
        · cases hu; exact hv
        · cases hu
      · cases hS
    · rw [if_neg hdt] at hS hu
      exact hA t S hS w w' u hle (h.2 t S u hS hu)

/-- what an operation has done -/
def Out (P : Program) (Le : World → World → Prop) (w : World) (V : KSet) : Result Next → Prop
  | .ok (.value u) w' => Le w w' ∧ V w' u
  | .ok .skip w' => Le w w' ∧ V w' undef
  | .ok (.enter f args) w' => Calls P f args w' (fun e w'' => ∃ u, e = .returned u ∧ Le w w'' ∧ V w'' u)
  | _ => False

def Gives (P : Program) (ops : Array Oper) (Le : World → World → Prop) (W : World) (o : Oper) (A : Known) (V : KSet) : Prop :=
  ∀ w, Le W w → ∀ a, FitsOn (o.looksAt ops) A w a → (Region.wanted o (yielded ops a.tmps) = true → Out P Le w V ((execOp a.eval o).run P w)) ∧ (Region.wanted o (yielded ops a.tmps) = false → V w undef)

/-- THE WALK IN THE ORDER OF THE TEXT -/
def wpR (P : Program) (ops : Array Oper) (Le : World → World → Prop) (W : World) (Q : Known → Prop) : List Oper → Known → Prop
  | [], A => Q A
  | o :: rest, A => ∃ V, Mon Le V ∧ Gives P ops Le W o A V ∧ wpR P ops Le W Q rest (upd A o.dst V)

def rOp (P : Program) (ops : Array Oper) (Le : World → World → Prop) (W : World) (i : Nat) (K : Known → Prop) (A : Known) : Prop :=
  match ops[i]? with
  | none => K A
  | some o => ∃ V, Mon Le V ∧ Gives P ops Le W o A V ∧ K (upd A o.dst V)

variable {W : World}
theorem rOp_mono {i : Nat} {A : Known} {K K' : Known → Prop} (h : ∀ A, K A → K' A) (hh : rOp P ops Le W i K A) : rOp P ops Le W i K' A := by
  unfold rOp at *
  split
  · exact h _ (by simpa [*] using hh)
  · rename_i o ho
    simp only [ho] at hh
    obtain ⟨V, h0, h1, h2⟩ := hh
    exact ⟨V, h0, h1, h _ h2⟩

def wpAnyR (P : Program) (md : Region.Mode) (ops : Array Oper) (Le : World → World → Prop) (W : World) (L0 : Array Bool) (K : Known → Prop) : Nat → Array Bool → Known → Prop
  | 0, listed, A => listed = L0 ∧ K A
  | fuel + 1, listed, A => (∃ i, i ∈ Region.ready md ops listed) ∧ ∀ i ∈ Region.ready md ops listed, rOp P ops Le W i (wpAnyR P md ops Le W L0 K fuel (listed.setIfInBounds i true)) A

theorem wpOp_of_rOp (ht : ∀ a b c, Le a b → Le b c → Le a c) {i : Nat} {A : Known} {a : Act} {K : Known → Prop} {K' : Act → World → Prop} {Q' : Exit → Act → World → Prop} {w : World} (hW : Le W w) (hA : AllMon Le A) (ha : Fits A w a)
    (h : ∀ A' a' w', Le W w' → AllMon Le A' → Fits A' w' a' → a'.defers = a.defers → K A' → K' a' w') (hr : ∀ w, Le w w) (hh : rOp P ops Le W i K A) : wpOp P ops Q' i K' a w := by
  unfold rOp at hh
  unfold wpOp
  split
  · rename_i ho; simp only [ho] at hh; exact h _ _ _ hW hA ha rfl hh
  · rename_i o ho
    simp only [ho] at hh
    obtain ⟨V, hm, hg, hK⟩ := hh
    obtain ⟨g1, g2⟩ := hg w hW a (ha.on _)
    have pd : ∀ v, (a.put o.dst v).defers = a.defers := fun v => by cases o.dst <;> rfl
    split
    · rename_i hw
      left
      have h3 := g1 hw
      unfold Oper.wp
      generalize (execOp a.eval o).run P w = r at *
      cases r with
      | ok n w' =>
        cases n <;> simp only [Out] at h3 <;> simp only [Oper.upon]
        case value u => exact h _ _ _ (ht _ _ _ hW h3.1) (hA.upd hm _) (ha.put hA h3.1 h3.2 _) (pd _) hK
        case skip => exact h _ _ _ (ht _ _ _ hW h3.1) (hA.upd hm _) (ha.put hA h3.1 h3.2 _) (pd _) hK
        case enter f args => exact h3.mono fun e w'' ⟨u, he, hu, hv⟩ => by subst he; exact h _ _ _ (ht _ _ _ hW hu) (hA.upd hm _) (ha.put hA hu hv _) (pd _) hK
      | halt x w' => simp only [Out] at h3
    · rename_i hw
      exact h _ _ _ hW (hA.upd hm _) (ha.put hA (hr w) (g2 (by simpa using hw)) _) (pd _) hK

theorem wpAny_of_R (hr : ∀ w, Le w w) (ht : ∀ a b c, Le a b → Le b c → Le a c) {L0 : Array Bool} {Q : Known → Prop} {Q' : Exit → Act → World → Prop} (d0 : List Deferred) (tf : Nat)
    (hQ : ∀ A a w, Le W w → Fits A w a → a.defers = d0 → Q A → wpAny P md ops Q' tf L0 a w) :
    ∀ (fuel : Nat) (listed : Array Bool) (A : Known) (a : Act) (w : World), Le W w → AllMon Le A → Fits A w a → a.defers = d0 → wpAnyR P md ops Le W L0 Q fuel listed A → wpAny P md ops Q' (fuel + tf) listed a w
  | 0, _, _, _, _, hw, hA, ha, hd, h => by
    obtain ⟨h1, h2⟩ := h
    subst h1
    rw [Nat.zero_add]
    exact hQ _ _ _ hw ha hd h2
  | fuel + 1, _, _, _, _, hw, hA, ha, hd, h => by
    rw [show fuel + 1 + tf = (fuel + tf) + 1 by omega]
    exact ⟨fun h0 => (by obtain ⟨i, hi⟩ := h.1; rw [h0] at hi; cases hi),
      fun i hi => wpOp_of_rOp ht hw hA ha (fun A' a' w' hw' hA' ha' hd' hh => wpAny_of_R hr ht d0 tf hQ fuel _ A' a' w' hw' hA' ha' (by rw [hd', hd]) hh) hr (h.2 i hi)⟩

theorem Gives.on {o q : Oper} {A : Known} {V U : KSet} (hap : ∀ d, q.dst = some d → d ∉ o.looksAt ops) (h : Gives P ops Le W o A V) : Gives P ops Le W o (upd A q.dst U) V :=
  fun w hw a ha => h w hw a ((fitsOn_upd hap).1 ha)
theorem Gives.back {o q : Oper} {A : Known} {V U : KSet} (hap : ∀ d, q.dst = some d → d ∉ o.looksAt ops) (h : Gives P ops Le W o (upd A q.dst U) V) : Gives P ops Le W o A V :=
  fun w hw a ha => h w hw a ((fitsOn_upd hap).2 ha)

theorem rOp_put {j : Nat} {oi oj : Oper} {V : KSet} (hj : ops[j]? = some oj) (hap : oi.apart ops oj = true) {K : Known → Prop} {A : Known}
    (hy : Gives P ops Le W oi A V) (h : rOp P ops Le W j K (upd A oi.dst V)) :
    rOp P ops Le W j (fun A' => Gives P ops Le W oi A' V ∧ K (upd A' oi.dst V)) A := by
  obtain ⟨h1, h2, h3⟩ := Oper.apart_spec hap
  unfold rOp at h ⊢
  simp only [hj] at h ⊢
  obtain ⟨U, hU, g1, g2⟩ := h
  exact ⟨U, hU, g1.back h1, hy.on h3, by rw [← upd_comm A V U h2]; exact g2⟩

/-- whatever is listed, what it waits for is listed -/
def Closed (md : Region.Mode) (ops : Array Oper) (listed : Array Bool) : Prop := ∀ (k : Nat) (o : Oper), ops[k]? = some o → listed.getD k false = true → ∀ e ∈ o.after, Region.binds md e = true → listed.getD e.on false = true
theorem Closed.put {listed : Array Bool} (h : Closed md ops listed) {j : Nat} (hj : j ∈ Region.ready md ops listed) : Closed md ops (listed.setIfInBounds j true) := by
  obtain ⟨_, oj, hoj, hall⟩ := mem_ready.1 hj
  intro k o hk hl e he hb
  by_cases hkj : j = k
  · subst hkj
    rw [hoj] at hk
    cases hk
    exact getD_set_true (hall e he hb)
  · rw [getD_set_ne false hkj] at hl
    exact getD_set_true (h k o hk hl e he hb)
/-- an operation of the forced ones is not ready while 'i' is not listed, or else the state is none that comes up -/
def Safe (md : Region.Mode) (ops : Array Oper) (L0 : Array Bool) (i : Nat) : Prop :=
  (∀ j ∈ Region.ready md ops L0, j ∉ Region.ready md ops (L0.setIfInBounds i false)) ∨ ∃ k o, ops[k]? = some o ∧ k ≠ i ∧ L0.getD k false = true ∧ ∃ e ∈ o.after, Region.binds md e = true ∧ e.on = i

theorem wpAnyR_first {L0 : Array Bool} {Q : Known → Prop} {i : Nat} {oi : Oper} {V : KSet} (hi : ops[i]? = some oi) (hm : Mon Le V)
    (hsafe : Safe md ops L0 i) :
    ∀ (fuel : Nat) (listed : Array Bool) (A : Known), Closed md ops listed →
      (∀ j oj, ops[j]? = some oj → j ≠ i → listed.getD j true = false → (∀ e ∈ oj.after, Region.binds md e = true → e.on ≠ i) → oi.apart ops oj = true) →
      i ∈ Region.ready md ops listed → Gives P ops Le W oi A V →
      wpAnyR P md ops Le W L0 Q fuel (listed.setIfInBounds i true) (upd A oi.dst V) → wpAnyR P md ops Le W L0 Q (fuel + 1) listed A := by
  intro fuel
  induction fuel with
  | zero =>
    intro listed A hcl _ hr hy H
    refine ⟨⟨i, hr⟩, fun j hj => ?_⟩
    by_cases hji : j = i
    · subst hji; unfold rOp; simp only [hi]; exact ⟨V, hm, hy, H⟩
    · exfalso
      have h1 := ready_mono hj hji
      rw [H.1] at h1
      have e : L0.setIfInBounds i false = listed := by
        rw [← H.1]
        have h0 := (mem_ready.1 hr).1
        have hlt : i < listed.size := by
          rcases Nat.lt_or_ge i listed.size with h' | h'
          · exact h'
          · simp [Array.getElem?_eq_none h'] at h0
        have hv : listed[i] = false := by simpa [hlt] using h0
        refine Array.ext_getElem? fun k => ?_
        rw [Array.getElem?_setIfInBounds, Array.getElem?_setIfInBounds]
        by_cases hk : i = k
        · subst hk; simp [hlt, hv]
        · simp [hk]
      rcases hsafe with hs | ⟨k, o, hk, hki, hkl, x, hx, hxb, hxi⟩
      · exact hs j h1 (by rw [e]; exact hj)
      · have h2 : listed.getD k false = true := by
          rw [← H.1, getD_set_ne false (Ne.symm hki)] at hkl; exact hkl
        have h3 := hcl k o hk h2 x hx hxb
        rw [hxi] at h3
        have h0 := (mem_ready.1 hr).1
        rcases Nat.lt_or_ge i listed.size with h' | h'
        · simp [h'] at h0 h3; rw [h0] at h3; cases h3
        · simp [Array.getElem?_eq_none h'] at h0
  | succ fuel ih =>
    intro listed A hcl hfree hr hy H
    refine ⟨⟨i, hr⟩, fun j hj => ?_⟩
    by_cases hji : j = i
    · subst hji; unfold rOp; simp only [hi]; exact ⟨V, hm, hy, H⟩
    · have h1 := H.2 j (ready_mono hj hji)
      obtain ⟨hjun, oj, hoj, hall⟩ := mem_ready.1 hj
      have hnot : ∀ e ∈ oj.after, Region.binds md e = true → e.on ≠ i := by
        intro e he hb heq
        have h1 := hall e he hb
        have h0 := (mem_ready.1 hr).1
        rw [heq] at h1
        rcases Nat.lt_or_ge i listed.size with h' | h'
        · simp [h'] at h0 h1; rw [h0] at h1; cases h1
        · simp [Array.getElem?_eq_none h'] at h1
      have h2 := rOp_put hoj (hfree j oj hoj hji hjun hnot) hy h1
      have hfree' : ∀ k ok, ops[k]? = some ok → k ≠ i → (listed.setIfInBounds j true).getD k true = false →
          (∀ e ∈ ok.after, Region.binds md e = true → e.on ≠ i) → oi.apart ops ok = true := by
        intro k ok hk hki hun hno
        refine hfree k ok hk hki ?_ hno
        by_cases hjk : j = k
        · subst hjk; exact hjun
        · rw [getD_set_ne true hjk] at hun; exact hun
      refine rOp_mono (fun A' h3 => ih (listed.setIfInBounds j true) A' (hcl.put hj) hfree' (ready_mono hr (Ne.symm hji)) h3.1 ?_) h2
      rw [Array.setIfInBounds_comm _ _ hji]
      exact h3.2

def preB (md : Region.Mode) (ops : Array Oper) : List Nat → Array Bool → Option (Array Bool)
  | [], listed => some listed
  | i :: is, listed => if (Region.ready md ops listed).contains i && Region.free md ops listed i then preB md ops is (listed.setIfInBounds i true) else none
def tailB (md : Region.Mode) (ops : Array Oper) : List Nat → Array Bool → Bool
  | [], listed => (Region.ready md ops listed).isEmpty
  | j :: js, listed => (Region.ready md ops listed == [j]) && tailB md ops js (listed.setIfInBounds j true)
def safeB (md : Region.Mode) (ops : Array Oper) (L0 : Array Bool) (i : Nat) : Bool :=
  ((Region.ready md ops L0).all fun j => !(Region.ready md ops (L0.setIfInBounds i false)).contains j) ||
    ((List.range ops.size).any fun k => k != i && L0.getD k false && match ops[k]? with | some o => o.after.any (fun e => Region.binds md e && e.on == i) | none => false)
theorem safe_of {L0 : Array Bool} {i : Nat} (h : safeB md ops L0 i = true) : Safe md ops L0 i := by
  unfold safeB at h
  rw [Bool.or_eq_true] at h
  rcases h with h | h
  · left
    intro j hj hn
    have := List.all_eq_true.1 h j hj
    simp at this
    exact this hn
  · right
    obtain ⟨k, hk, h2⟩ := List.any_eq_true.1 h
    simp only [Bool.and_eq_true, bne_iff_ne, ne_eq] at h2
    obtain ⟨⟨h3, h4⟩, h5⟩ := h2
    cases ho : ops[k]? with
    | none => rw [ho] at h5; cases h5
    | some o =>
      rw [ho] at h5
      obtain ⟨e, he, hb⟩ := Array.any_eq_true'.1 h5
      simp only [Bool.and_eq_true, beq_iff_eq] at hb
      exact ⟨k, o, ho, h3, h4, e, he, hb.1, hb.2⟩
def planB (md : Region.Mode) (ops : Array Oper) (pre tail : List Nat) : Bool :=
  match preB md ops pre (Array.replicate ops.size false) with
  | none => false
  | some L0 => tailB md ops tail L0 && (pre.all fun i => safeB md ops L0 i) && (pre.length + tail.length == ops.size)

theorem wpAnyR_pre {L0 : Array Bool} {Q : Known → Prop} : ∀ (is : List Nat) (l : List Oper) (listed : Array Bool) (A : Known), is.map (ops[·]?) = l.map some →
    preB md ops is listed = some L0 → (∀ i ∈ is, Safe md ops L0 i) → Closed md ops listed →
    wpR P ops Le W Q l A → wpAnyR P md ops Le W L0 Q is.length listed A
  | [], [], _, _, _, hB, _, _, h => ⟨by simpa [preB] using hB, h⟩
  | [], _ :: _, _, _, hl, _, _, _, _ => by simp at hl
  | _ :: _, [], _, _, hl, _, _, _, _ => by simp at hl
  | i :: is, o :: l, listed, A, hl, hB, hs, hcl, h => by
    simp only [List.map_cons, List.cons.injEq] at hl
    simp only [preB] at hB
    split at hB
    · rename_i hc
      simp only [Bool.and_eq_true] at hc
      obtain ⟨V, hm, hg, hK⟩ := h
      exact wpAnyR_first hl.1 hm (hs i (by simp)) is.length listed A hcl (Region.free_spec hl.1 hc.2) (by simpa using hc.1) hg
        (wpAnyR_pre is l _ _ hl.2 hB (fun k hk => hs k (by simp [hk])) (hcl.put (by simpa using hc.1)) hK)
    · cases hB

theorem wpAny_tail {Q' : Exit → Act → World → Prop} : ∀ (js : List Nat) (l : List Oper) (listed : Array Bool) (a : Act) (w : World), js.map (ops[·]?) = l.map some → tailB md ops js listed = true →
    wpList P ops Q' l a w → wpAny P md ops Q' js.length listed a w
  | [], [], _, _, _, _, hB, h => ⟨by simpa [tailB] using hB, h⟩
  | [], _ :: _, _, _, _, hl, _, _ => by simp at hl
  | _ :: _, [], _, _, _, hl, _, _ => by simp at hl
  | j :: js, o :: l, listed, a, w, hl, hB, h => by
    simp only [List.map_cons, List.cons.injEq] at hl
    simp only [tailB, Bool.and_eq_true, beq_iff_eq] at hB
    refine ⟨fun h0 => (by rw [hB.1] at h0; cases h0), fun i hi => ?_⟩
    rw [hB.1, List.mem_singleton] at hi
    subst hi
    have h' : wpOp P ops Q' i (wpList P ops Q' l) a w := by
      unfold wpOp
      simp only [hl.1]
      exact h
    exact wpOp_mono (fun a' w' hh => wpAny_tail js l _ a' w' hl.2 hB.2 hh) h'

/-- **a region that draws its order, in a world 'w', the slots being 'tmps': the operations 'pre' in whatever order, then 'tail' in theirs** -/
theorem wp_region_K {id : Nat} {Q : Exit → Act → World → Prop} {tmps : List Value} {D : List Deferred} {l : List Oper} (pre tail : List Nat) (hr : ∀ w, Le w w) (ht : ∀ a b c, Le a b → Le b c → Le a c) (hd : ∀ w, Le w (w.drewN 1))
    (hm : P.follows .mixedOrders = true) (hB : planB .any l.toArray pre tail = true) {lp lt : List Oper} (hp : pre.map (l[·]?) = lp.map some) (hq : tail.map (l[·]?) = lt.map some)
    (h : wpR P l.toArray Le W (fun A' => ∀ a' w', Le W w' → Fits A' w' a' → a'.defers = D → wpList P l.toArray Q lt a' w') lp (tmps.map Is1)) :
    (Code.region id l.toArray true).wp P Q ⟨tmps.toArray, D⟩ W := by
  unfold planB at hB
  split at hB
  · cases hB
  rename_i L0 hL
  simp only [Bool.and_eq_true, beq_iff_eq, List.all_eq_true] at hB
  obtain ⟨⟨hT, hS⟩, hN⟩ := hB
  have hfit : Fits (tmps.map Is1) (W.drewN 1) ⟨tmps.toArray, D⟩ := by
    refine ⟨by simp, fun t S v hS hv => ?_⟩
    simp at hS hv
    obtain ⟨u, hu, rfl⟩ := hS
    rw [hu] at hv
    cases hv; rfl
  have hmon : AllMon Le (tmps.map Is1) := by
    intro t S hS
    simp at hS
    obtain ⟨u, _, rfl⟩ := hS
    exact fun _ _ _ _ h => h
  have hp' : pre.map (l.toArray[·]?) = lp.map some := by simpa using hp
  have hq' : tail.map (l.toArray[·]?) = lt.map some := by simpa using hq
  refine wp_region_any hm ?_
  have key : wpAny P .any l.toArray Q (pre.length + tail.length) (Array.replicate l.toArray.size false) ⟨tmps.toArray, D⟩ (W.drewN 1) := by
   refine wpAny_of_R (Le := Le) (W := W) (Q := fun A' => ∀ a' w', Le W w' → Fits A' w' a' → a'.defers = D → wpList P l.toArray Q lt a' w') hr ht D tail.length (fun A a w hw ha hd' hh => wpAny_tail tail lt L0 a w hq' hT (hh a w hw ha hd')) _ _ _ _ _ (hd W) hmon hfit rfl ?_
   exact wpAnyR_pre pre lp _ _ hp' hL (fun i hi => safe_of (hS i hi)) (fun k o _ hl => by exfalso; rcases Nat.lt_or_ge k l.length with h' | h' <;> simp [Array.getElem?_replicate, h'] at hl) h
  rw [hN] at key
  exact key
end
end Go.Rk
end

/-
  THE STEPS OF THE WALK THROUGH A REGION WHOSE WORLDS MAY GROW, slot by slot as sets that a growing world only widens. (No program here.)
-/
section
set_option linter.unusedVariables false
set_option linter.unusedSimpArgs false
namespace Go.Rk
open Go Go.Fl

structure Good (Le : World → World → Prop) : Prop where
  refl : ∀ w, Le w w
  trans : ∀ a b c, Le a b → Le b c → Le a c
  draw : ∀ w n, Le w (w.drewN n)
  alloc : ∀ w o, Le w (w.alloc o)

theorem good_bel : Good Bel := ⟨Bel.refl, fun _ _ _ h k => h.trans k, fun w n => (Bel.refl w).drewN n, fun w o => (Bel.refl w).alloc o⟩

theorem mon_is1 {Le : World → World → Prop} (v : Value) : Mon Le (Is1 v) := fun _ _ _ _ h => h
theorem mon_isF {Le : World → World → Prop} (k : FloatKind) (X : Nat) : Mon Le (IsF k X) := fun _ _ _ _ h => h

def slotS (A : Known) : Operand → KSet
  | .tmp t => A.getD t (Is1 undef)
  | .const v => Is1 v
  | .global g => Is1 (.pointer (some ⟨g, 0, none⟩))
  | .func f => Is1 (.func (.func f) #[] #[])

theorem fits_eval {L : List Tmp} {A : Known} {w : World} {a : Act} (h : FitsOn L A w a) (x : Operand) (hx : ∀ t, x = .tmp t → t ∈ L) : slotS A x w (a.eval x) := by
  cases x with
  | tmp t =>
    show (A.getD t (Is1 undef)) w (a.tmps.getD t undef)
    rw [List.getD_eq_getElem?_getD, Array.getD_eq_getD_getElem?]
    cases hS : A[t]? with
    | none =>
      have : a.tmps[t]? = none := by
        rw [List.getElem?_eq_none_iff] at hS
        rw [Array.getElem?_eq_none_iff, ← h.1]; exact hS
      rw [this]; rfl
    | some S =>
      have hlt := (List.getElem?_eq_some_iff.1 hS).1
      cases hv : a.tmps[t]? with
      | none => rw [Array.getElem?_eq_none_iff, ← h.1] at hv; omega
      | some v => exact h.2 t (hx t rfl) S v hS hv
  | const v => rfl
  | global g => rfl
  | func f => rfl

theorem looks_op {ops : Array Oper} {o : Oper} {x : Operand} (hx : x ∈ o.op.operands.toList) : ∀ t, x = .tmp t → t ∈ o.looksAt ops := by
  rintro t rfl
  unfold Oper.looksAt
  exact List.mem_append_left _ (List.mem_filterMap.2 ⟨.tmp t, hx, rfl⟩)

section
variable {P : Program} {ops : Array Oper} {Le : World → World → Prop} {W : World} {Q : Known → Prop} {rest : List Oper} {A : Known} {dst : Option Tmp} {ty : TypeId} {pos : String} {after : Array Edge} {guard : Option (Nat × Bool)} {x y z x2 x3 x4 : Operand} {t t' : TypeId}

/-- the guard says yes in every frame that is as is known -/
def Yes (ops : Array Oper) (A : Known) (o : Oper) : Prop := ∀ w a, FitsOn (o.looksAt ops) A w a → Region.wanted o (yielded ops a.tmps) = true

theorem yes_none {o : Op} : Yes ops A ⟨dst, o, ty, pos, after, none⟩ := fun _ _ _ => rfl
theorem guard_is {L : List Tmp} {j d : Nat} {c : Bool} (h1 : (ops[j]?).bind (·.dst) = some d) (h2 : A[d]? = some (Is1 (.bool c))) {w : World} {a : Act} (hL : d ∈ L) (ha : FitsOn L A w a) : yielded ops a.tmps j = some c := by
  unfold yielded
  rw [h1]
  have hlt := (List.getElem?_eq_some_iff.1 h2).1
  cases hv : a.tmps[d]? with
  | none => rw [Array.getElem?_eq_none_iff, ← ha.1] at hv; omega
  | some v =>
    have := ha.2 d hL _ v h2 hv
    show (match a.tmps[d]? with | some (.bool b) => some b | _ => none) = some c
    rw [hv]
    have e : v = .bool c := this
    rw [e]
theorem looks_guard {o : Op} {j d : Nat} {b : Bool} (h1 : (ops[j]?).bind (·.dst) = some d) : d ∈ (⟨dst, o, ty, pos, after, some (j, b)⟩ : Oper).looksAt ops := by
  unfold Oper.looksAt
  refine List.mem_append_right _ ?_
  simp only [h1]
  exact List.mem_singleton.2 rfl
theorem yes_some {o : Op} {j d : Nat} {b : Bool} (h1 : (ops[j]?).bind (·.dst) = some d) (h2 : A[d]? = some (Is1 (.bool b))) : Yes ops A ⟨dst, o, ty, pos, after, some (j, b)⟩ := by
  intro w a ha
  show (yielded ops a.tmps j == some b) = true
  rw [guard_is h1 h2 (looks_guard h1) ha]; simp

theorem wpR_skip {o : Op} {j d : Nat} {b c : Bool} (h1 : (ops[j]?).bind (·.dst) = some d) (h2 : A[d]? = some (Is1 (.bool c))) (hne : (c == b) = false)
    (h : wpR P ops Le W Q rest (upd A dst (Is1 undef))) : wpR P ops Le W Q (⟨dst, o, ty, pos, after, some (j, b)⟩ :: rest) A := by
  refine ⟨_, mon_is1 _, ?_, h⟩
  intro w hw a ha
  have e : Region.wanted ⟨dst, o, ty, pos, after, some (j, b)⟩ (yielded ops a.tmps) = false := by
    show (yielded ops a.tmps j == some b) = false
    rw [guard_is h1 h2 (looks_guard h1) ha]; simpa using hne
  rw [e]
  exact ⟨fun h => (by cases h), fun _ => rfl⟩

theorem gives_run {o : Oper} {V : KSet} (hy : Yes ops A o) (h : ∀ w, Le W w → ∀ a, FitsOn (o.looksAt ops) A w a → ∃ u w', (execOp a.eval o).run P w = .ok (.value u) w' ∧ Le w w' ∧ V w' u) : Gives P ops Le W o A V := by
  intro w hw a ha
  rw [hy w a ha]
  refine ⟨fun _ => ?_, fun h => by cases h⟩
  obtain ⟨u, w', h1, h2, h3⟩ := h w hw a ha
  rw [h1]
  exact ⟨h2, h3⟩

theorem wpR_move (hL : Good Le) (hy : Yes ops A ⟨dst, .move x, ty, pos, after, guard⟩) {S : KSet} (hm : Mon Le S) (hS : slotS A x = S) (h : wpR P ops Le W Q rest (upd A dst S)) :
    wpR P ops Le W Q (⟨dst, .move x, ty, pos, after, guard⟩ :: rest) A := by
  subst hS
  exact ⟨_, hm, gives_run hy fun w hw a ha => ⟨_, w, rfl, hL.refl _, fits_eval ha x (looks_op (by simp [Op.operands]))⟩, h⟩
theorem wpR_assign (hL : Good Le) (hy : Yes ops A ⟨dst, .assign x, ty, pos, after, guard⟩) {S : KSet} (hm : Mon Le S) (hS : slotS A x = S) (h : wpR P ops Le W Q rest (upd A dst S)) :
    wpR P ops Le W Q (⟨dst, .assign x, ty, pos, after, guard⟩ :: rest) A := by
  subst hS
  exact ⟨_, hm, gives_run hy fun w hw a ha => ⟨_, w, rfl, hL.refl _, fits_eval ha x (looks_op (by simp [Op.operands]))⟩, h⟩
theorem wpR_pickT (hL : Good Le) (hy : Yes ops A ⟨dst, .pick x y z, ty, pos, after, guard⟩) {S : KSet} (hm : Mon Le S) (hc : slotS A x = Is1 (.bool true)) (hS : slotS A y = S)
    (h : wpR P ops Le W Q rest (upd A dst S)) : wpR P ops Le W Q (⟨dst, .pick x y z, ty, pos, after, guard⟩ :: rest) A := by
  subst hS
  refine ⟨_, hm, gives_run hy fun w hw a ha => ⟨a.eval y, w, ?_, hL.refl _, fits_eval ha _ (looks_op (by simp [Op.operands]))⟩, h⟩
  have e : a.eval x = .bool true := by have := fits_eval ha x (looks_op (by simp [Op.operands])); rw [hc] at this; exact this
  simp [execOp, e, asBool]
theorem wpR_pickF (hL : Good Le) (hy : Yes ops A ⟨dst, .pick x y z, ty, pos, after, guard⟩) {S : KSet} (hm : Mon Le S) (hc : slotS A x = Is1 (.bool false)) (hS : slotS A z = S)
    (h : wpR P ops Le W Q rest (upd A dst S)) : wpR P ops Le W Q (⟨dst, .pick x y z, ty, pos, after, guard⟩ :: rest) A := by
  subst hS
  refine ⟨_, hm, gives_run hy fun w hw a ha => ⟨a.eval z, w, ?_, hL.refl _, fits_eval ha _ (looks_op (by simp [Op.operands]))⟩, h⟩
  have e : a.eval x = .bool false := by have := fits_eval ha x (looks_op (by simp [Op.operands])); rw [hc] at this; exact this
  simp [execOp, e, asBool]

/-- a set of words for 'X' -/
def SubF (S : KSet) (k : FloatKind) (X : Nat) : Prop := ∀ w v, S w v → ∃ b, v = .float k b ∧ Is k b X
theorem subF_is (k : FloatKind) (X : Nat) : SubF (IsF k X) k X := fun _ v h => h
theorem subF_eq {k : FloatKind} {b X : Nat} (h : Is k b X) : SubF (Is1 (.float k b)) k X := fun _ v hv => ⟨b, hv, h⟩
theorem sub_eval {L : List Tmp} {S : KSet} {k : FloatKind} {X : Nat} {w : World} {a : Act} (ha : FitsOn L A w a) (hx : ∀ t, x = .tmp t → t ∈ L) (hS : slotS A x = S) (h : SubF S k X) : ∃ b, a.eval x = .float k b ∧ Is k b X := by
  subst hS; exact h _ _ (fits_eval ha x hx)

theorem wpR_fop (hL : Good Le) {op : BinOp} (hop : op = .add ∨ op = .sub ∨ op = .mul ∨ op = .quo) {k : FloatKind} {X Y : Nat} {S T : KSet} (hy : Yes ops A ⟨dst, .binOp op t x y t', ty, pos, after, guard⟩)
    (hS : slotS A x = S) (hT : slotS A y = T) (hX : SubF S k X) (hY : SubF T k Y) (h : wpR P ops Le W Q rest (upd A dst (IsF k (fop op k X Y)))) :
    wpR P ops Le W Q (⟨dst, .binOp op t x y t', ty, pos, after, guard⟩ :: rest) A := by
  refine ⟨_, mon_isF _ _, gives_run hy fun w hw a ha => ?_, h⟩
  obtain ⟨b, e1, h1⟩ := sub_eval ha (looks_op (by simp [Op.operands])) hS hX
  obtain ⟨c, e2, h2⟩ := sub_eval ha (looks_op (by simp [Op.operands])) hT hY
  obtain ⟨r, m, hrun, hr⟩ := run_fop (P := P) w op hop t k b c
  rw [h1.2, h2.2] at hr
  exact ⟨_, _, run_exec_binOp e1 e2 hrun, hL.draw _ _, r, rfl, hr⟩
theorem wpR_fadd (hL : Good Le) {k : FloatKind} {X Y : Nat} {S T : KSet} (hy : Yes ops A ⟨dst, .binOp .add t x y t', ty, pos, after, guard⟩)
    (hS : slotS A x = S) (hT : slotS A y = T) (hX : SubF S k X) (hY : SubF T k Y) (h : wpR P ops Le W Q rest (upd A dst (IsF k (fop .add k X Y)))) :
    wpR P ops Le W Q (⟨dst, .binOp .add t x y t', ty, pos, after, guard⟩ :: rest) A := wpR_fop hL (by simp) hy hS hT hX hY h
theorem wpR_fsub (hL : Good Le) {k : FloatKind} {X Y : Nat} {S T : KSet} (hy : Yes ops A ⟨dst, .binOp .sub t x y t', ty, pos, after, guard⟩)
    (hS : slotS A x = S) (hT : slotS A y = T) (hX : SubF S k X) (hY : SubF T k Y) (h : wpR P ops Le W Q rest (upd A dst (IsF k (fop .sub k X Y)))) :
    wpR P ops Le W Q (⟨dst, .binOp .sub t x y t', ty, pos, after, guard⟩ :: rest) A := wpR_fop hL (by simp) hy hS hT hX hY h
theorem wpR_fmul (hL : Good Le) {k : FloatKind} {X Y : Nat} {S T : KSet} (hy : Yes ops A ⟨dst, .binOp .mul t x y t', ty, pos, after, guard⟩)
    (hS : slotS A x = S) (hT : slotS A y = T) (hX : SubF S k X) (hY : SubF T k Y) (h : wpR P ops Le W Q rest (upd A dst (IsF k (fop .mul k X Y)))) :
    wpR P ops Le W Q (⟨dst, .binOp .mul t x y t', ty, pos, after, guard⟩ :: rest) A := wpR_fop hL (by simp) hy hS hT hX hY h
theorem wpR_fquo (hL : Good Le) {k : FloatKind} {X Y : Nat} {S T : KSet} (hy : Yes ops A ⟨dst, .binOp .quo t x y t', ty, pos, after, guard⟩)
    (hS : slotS A x = S) (hT : slotS A y = T) (hX : SubF S k X) (hY : SubF T k Y) (h : wpR P ops Le W Q rest (upd A dst (IsF k (fop .quo k X Y)))) :
    wpR P ops Le W Q (⟨dst, .binOp .quo t x y t', ty, pos, after, guard⟩ :: rest) A := wpR_fop hL (by simp) hy hS hT hX hY h
theorem wpR_cmp (hL : Good Le) {op : BinOp} {k : FloatKind} {X Y : Nat} {S T : KSet} {c : Bool} (hc : ∀ b d, Is k b X → Is k d Y → binOp op t (.float k b) (.float k d) = pure (.bool c))
    (hy : Yes ops A ⟨dst, .binOp op t x y t', ty, pos, after, guard⟩)
    (hS : slotS A x = S) (hT : slotS A y = T) (hX : SubF S k X) (hY : SubF T k Y) (h : wpR P ops Le W Q rest (upd A dst (Is1 (.bool c)))) :
    wpR P ops Le W Q (⟨dst, .binOp op t x y t', ty, pos, after, guard⟩ :: rest) A := by
  refine ⟨_, mon_is1 _, gives_run hy fun w hw a ha => ?_, h⟩
  obtain ⟨b, e1, h1⟩ := sub_eval ha (looks_op (by simp [Op.operands])) hS hX
  obtain ⟨d, e2, h2⟩ := sub_eval ha (looks_op (by simp [Op.operands])) hT hY
  exact ⟨_, w, run_exec_binOp e1 e2 (by rw [hc b d h1 h2]; rfl), hL.refl _, rfl⟩
theorem wpR_feq (hL : Good Le) {k : FloatKind} {X Y : Nat} {S T : KSet} (hy : Yes ops A ⟨dst, .binOp .eql t x y t', ty, pos, after, guard⟩)
    (hS : slotS A x = S) (hT : slotS A y = T) (hX : SubF S k X) (hY : SubF T k Y) (h : wpR P ops Le W Q rest (upd A dst (Is1 (.bool (feq k X Y))))) :
    wpR P ops Le W Q (⟨dst, .binOp .eql t x y t', ty, pos, after, guard⟩ :: rest) A :=
  wpR_cmp hL (fun b d h1 h2 => by rw [binOp_float_cmp_eql, ord_is h1 h2]; unfold feq; rfl) hy hS hT hX hY h
theorem wpR_fne (hL : Good Le) {k : FloatKind} {X Y : Nat} {S T : KSet} (hy : Yes ops A ⟨dst, .binOp .neq t x y t', ty, pos, after, guard⟩)
    (hS : slotS A x = S) (hT : slotS A y = T) (hX : SubF S k X) (hY : SubF T k Y) (h : wpR P ops Le W Q rest (upd A dst (Is1 (.bool (fne k X Y))))) :
    wpR P ops Le W Q (⟨dst, .binOp .neq t x y t', ty, pos, after, guard⟩ :: rest) A :=
  wpR_cmp hL (fun b d h1 h2 => by rw [binOp_float_cmp_neq, ord_is h1 h2]; unfold fne; rfl) hy hS hT hX hY h
theorem wpR_flt (hL : Good Le) {k : FloatKind} {X Y : Nat} {S T : KSet} (hy : Yes ops A ⟨dst, .binOp .lss t x y t', ty, pos, after, guard⟩)
    (hS : slotS A x = S) (hT : slotS A y = T) (hX : SubF S k X) (hY : SubF T k Y) (h : wpR P ops Le W Q rest (upd A dst (Is1 (.bool (flt k X Y))))) :
    wpR P ops Le W Q (⟨dst, .binOp .lss t x y t', ty, pos, after, guard⟩ :: rest) A :=
  wpR_cmp hL (fun b d h1 h2 => by rw [binOp_float_cmp_lss, ord_is h1 h2]; unfold flt; rfl) hy hS hT hX hY h
theorem wpR_fgt (hL : Good Le) {k : FloatKind} {X Y : Nat} {S T : KSet} (hy : Yes ops A ⟨dst, .binOp .gtr t x y t', ty, pos, after, guard⟩)
    (hS : slotS A x = S) (hT : slotS A y = T) (hX : SubF S k X) (hY : SubF T k Y) (h : wpR P ops Le W Q rest (upd A dst (Is1 (.bool (fgt k X Y))))) :
    wpR P ops Le W Q (⟨dst, .binOp .gtr t x y t', ty, pos, after, guard⟩ :: rest) A :=
  wpR_cmp hL (fun b d h1 h2 => by rw [binOp_float_cmp_gtr, ord_is h1 h2]; unfold fgt; rfl) hy hS hT hX hY h
theorem wpR_fge (hL : Good Le) {k : FloatKind} {X Y : Nat} {S T : KSet} (hy : Yes ops A ⟨dst, .binOp .geq t x y t', ty, pos, after, guard⟩)
    (hS : slotS A x = S) (hT : slotS A y = T) (hX : SubF S k X) (hY : SubF T k Y) (h : wpR P ops Le W Q rest (upd A dst (Is1 (.bool (fge k X Y))))) :
    wpR P ops Le W Q (⟨dst, .binOp .geq t x y t', ty, pos, after, guard⟩ :: rest) A :=
  wpR_cmp hL (fun b d h1 h2 => by rw [binOp_float_cmp_geq, ord_is h1 h2]; unfold fge; rfl) hy hS hT hX hY h
theorem wpR_fle (hL : Good Le) {k : FloatKind} {X Y : Nat} {S T : KSet} (hy : Yes ops A ⟨dst, .binOp .leq t x y t', ty, pos, after, guard⟩)
    (hS : slotS A x = S) (hT : slotS A y = T) (hX : SubF S k X) (hY : SubF T k Y) (h : wpR P ops Le W Q rest (upd A dst (Is1 (.bool (fle k X Y))))) :
    wpR P ops Le W Q (⟨dst, .binOp .leq t x y t', ty, pos, after, guard⟩ :: rest) A :=
  wpR_cmp hL (fun b d h1 h2 => by rw [binOp_float_cmp_leq, ord_is h1 h2]; unfold fle; rfl) hy hS hT hX hY h

theorem wpR_widen (hL : Good Le) {src d : TypeId} {us : TypeDesc} (hs : P.underlying src = some us) (hd : P.underlying d = some (.float .f64)) {X : Nat} {S : KSet}
    (hy : Yes ops A ⟨dst, .convert src d x, ty, pos, after, guard⟩) (hS : slotS A x = S) (hX : SubF S .f32 X) (h : wpR P ops Le W Q rest (upd A dst (IsF .f64 (wid X)))) :
    wpR P ops Le W Q (⟨dst, .convert src d x, ty, pos, after, guard⟩ :: rest) A := by
  refine ⟨_, mon_isF _ _, gives_run hy fun w hw a ha => ?_, h⟩
  obtain ⟨b, e1, h1⟩ := sub_eval ha (looks_op (by simp [Op.operands])) hS hX
  obtain ⟨r, m, hrun, hr⟩ := run_conv (P := P) w src d .f32 .f64 (by decide) hs hd b (widen_ok h1.1)
  rw [h1.2] at hr
  refine ⟨.float .f64 r, w.drewN m, ?_, hL.draw _ _, r, rfl, ?_⟩
  · simp [execOp, e1, hrun]
  · unfold wid; exact hr

/-- any operation all of whose operands are known outright: none, one operand, two -/
theorem wpR_one (hL : Good Le) {o : Op} {v u : Value} (x : Operand) (hmem : x ∈ o.operands.toList) (hy : Yes ops A ⟨dst, o, ty, pos, after, guard⟩) (hx : slotS A x = Is1 v)
    (hrun : ∀ (ρ : Operand → Value) (w : World), Le W w → ρ x = v → (execOp ρ ⟨dst, o, ty, pos, after, guard⟩).run P w = .ok (.value u) w) (h : wpR P ops Le W Q rest (upd A dst (Is1 u))) :
    wpR P ops Le W Q (⟨dst, o, ty, pos, after, guard⟩ :: rest) A := by
  refine ⟨Is1 u, mon_is1 _, gives_run hy fun w hw a ha => ⟨u, w, hrun a.eval w hw ?_, hL.refl _, rfl⟩, h⟩
  have := fits_eval ha x (looks_op hmem); rw [hx] at this; exact this
theorem wpR_two (hL : Good Le) {o : Op} {v v' u : Value} (x y : Operand) (hmem : x ∈ o.operands.toList) (hmem' : y ∈ o.operands.toList) (hy : Yes ops A ⟨dst, o, ty, pos, after, guard⟩) (hx : slotS A x = Is1 v) (hx' : slotS A y = Is1 v')
    (hrun : ∀ (ρ : Operand → Value) (w : World), Le W w → ρ x = v → ρ y = v' → (execOp ρ ⟨dst, o, ty, pos, after, guard⟩).run P w = .ok (.value u) w) (h : wpR P ops Le W Q rest (upd A dst (Is1 u))) :
    wpR P ops Le W Q (⟨dst, o, ty, pos, after, guard⟩ :: rest) A := by
  refine ⟨Is1 u, mon_is1 _, gives_run hy fun w hw a ha => ⟨u, w, hrun a.eval w hw ?_ ?_, hL.refl _, rfl⟩, h⟩
  · have := fits_eval ha x (looks_op hmem); rw [hx] at this; exact this
  · have := fits_eval ha y (looks_op hmem'); rw [hx'] at this; exact this

theorem wpR_indexAddr (hL : Good Le) {v v' u : Value} (hy : Yes ops A ⟨dst, .indexAddr t x y, ty, pos, after, guard⟩) (hx : slotS A x = Is1 v) (hx' : slotS A y = Is1 v')
    (hrun : ∀ (ρ : Operand → Value) (w : World), Le W w → ρ x = v → ρ y = v' → (execOp ρ ⟨dst, .indexAddr t x y, ty, pos, after, guard⟩).run P w = .ok (.value u) w) (h : wpR P ops Le W Q rest (upd A dst (Is1 u))) :
    wpR P ops Le W Q (⟨dst, .indexAddr t x y, ty, pos, after, guard⟩ :: rest) A := wpR_two hL x y (by simp [Op.operands]) (by simp [Op.operands]) hy hx hx' hrun h
theorem wpR_binOp (hL : Good Le) {bo : BinOp} {v v' u : Value} (hy : Yes ops A ⟨dst, .binOp bo t x y t', ty, pos, after, guard⟩) (hx : slotS A x = Is1 v) (hx' : slotS A y = Is1 v')
    (hrun : ∀ (ρ : Operand → Value) (w : World), Le W w → ρ x = v → ρ y = v' → (execOp ρ ⟨dst, .binOp bo t x y t', ty, pos, after, guard⟩).run P w = .ok (.value u) w) (h : wpR P ops Le W Q rest (upd A dst (Is1 u))) :
    wpR P ops Le W Q (⟨dst, .binOp bo t x y t', ty, pos, after, guard⟩ :: rest) A := wpR_two hL x y (by simp [Op.operands]) (by simp [Op.operands]) hy hx hx' hrun h
theorem wpR_load (hL : Good Le) {v u : Value} (hy : Yes ops A ⟨dst, .load t x, ty, pos, after, guard⟩) (hx : slotS A x = Is1 v)
    (hrun : ∀ (ρ : Operand → Value) (w : World), Le W w → ρ x = v → (execOp ρ ⟨dst, .load t x, ty, pos, after, guard⟩).run P w = .ok (.value u) w) (h : wpR P ops Le W Q rest (upd A dst (Is1 u))) :
    wpR P ops Le W Q (⟨dst, .load t x, ty, pos, after, guard⟩ :: rest) A := wpR_one hL x (by simp [Op.operands, Call.operands]) hy hx hrun h
theorem wpR_unOp (hL : Good Le) {uo : UnOp} {v u : Value} (hy : Yes ops A ⟨dst, .unOp uo t x, ty, pos, after, guard⟩) (hx : slotS A x = Is1 v)
    (hrun : ∀ (ρ : Operand → Value) (w : World), Le W w → ρ x = v → (execOp ρ ⟨dst, .unOp uo t x, ty, pos, after, guard⟩).run P w = .ok (.value u) w) (h : wpR P ops Le W Q rest (upd A dst (Is1 u))) :
    wpR P ops Le W Q (⟨dst, .unOp uo t x, ty, pos, after, guard⟩ :: rest) A := wpR_one hL x (by simp [Op.operands, Call.operands]) hy hx hrun h
theorem wpR_convert (hL : Good Le) {v u : Value} (hy : Yes ops A ⟨dst, .convert t t' x, ty, pos, after, guard⟩) (hx : slotS A x = Is1 v)
    (hrun : ∀ (ρ : Operand → Value) (w : World), Le W w → ρ x = v → (execOp ρ ⟨dst, .convert t t' x, ty, pos, after, guard⟩).run P w = .ok (.value u) w) (h : wpR P ops Le W Q rest (upd A dst (Is1 u))) :
    wpR P ops Le W Q (⟨dst, .convert t t' x, ty, pos, after, guard⟩ :: rest) A := wpR_one hL x (by simp [Op.operands, Call.operands]) hy hx hrun h
theorem wpR_field (hL : Good Le) {fi : Nat} {v u : Value} (hy : Yes ops A ⟨dst, .field t x fi, ty, pos, after, guard⟩) (hx : slotS A x = Is1 v)
    (hrun : ∀ (ρ : Operand → Value) (w : World), Le W w → ρ x = v → (execOp ρ ⟨dst, .field t x fi, ty, pos, after, guard⟩).run P w = .ok (.value u) w) (h : wpR P ops Le W Q rest (upd A dst (Is1 u))) :
    wpR P ops Le W Q (⟨dst, .field t x fi, ty, pos, after, guard⟩ :: rest) A := wpR_one hL x (by simp [Op.operands, Call.operands]) hy hx hrun h
theorem wpR_fieldAddr (hL : Good Le) {fi : Nat} {v u : Value} (hy : Yes ops A ⟨dst, .fieldAddr t x fi, ty, pos, after, guard⟩) (hx : slotS A x = Is1 v)
    (hrun : ∀ (ρ : Operand → Value) (w : World), Le W w → ρ x = v → (execOp ρ ⟨dst, .fieldAddr t x fi, ty, pos, after, guard⟩).run P w = .ok (.value u) w) (h : wpR P ops Le W Q rest (upd A dst (Is1 u))) :
    wpR P ops Le W Q (⟨dst, .fieldAddr t x fi, ty, pos, after, guard⟩ :: rest) A := wpR_one hL x (by simp [Op.operands, Call.operands]) hy hx hrun h
theorem wpR_nilCheck (hL : Good Le) {v u : Value} (hy : Yes ops A ⟨dst, .nilCheck x, ty, pos, after, guard⟩) (hx : slotS A x = Is1 v)
    (hrun : ∀ (ρ : Operand → Value) (w : World), Le W w → ρ x = v → (execOp ρ ⟨dst, .nilCheck x, ty, pos, after, guard⟩).run P w = .ok (.value u) w) (h : wpR P ops Le W Q rest (upd A dst (Is1 u))) :
    wpR P ops Le W Q (⟨dst, .nilCheck x, ty, pos, after, guard⟩ :: rest) A := wpR_one hL x (by simp [Op.operands, Call.operands]) hy hx hrun h
theorem wpR_builtin1 (hL : Good Le) {bi : Builtin} {ats : Array TypeId} {v u : Value} (hy : Yes ops A ⟨dst, .call { callee := .builtin bi, args := #[x], argTypes := ats }, ty, pos, after, guard⟩) (hx : slotS A x = Is1 v)
    (hrun : ∀ (ρ : Operand → Value) (w : World), Le W w → ρ x = v → (execOp ρ ⟨dst, .call { callee := .builtin bi, args := #[x], argTypes := ats }, ty, pos, after, guard⟩).run P w = .ok (.value u) w) (h : wpR P ops Le W Q rest (upd A dst (Is1 u))) :
    wpR P ops Le W Q (⟨dst, .call { callee := .builtin bi, args := #[x], argTypes := ats }, ty, pos, after, guard⟩ :: rest) A := wpR_one hL x (by simp [Op.operands, Call.operands]) hy hx hrun h
theorem wpR_extract (hL : Good Le) {fi : Nat} {v u : Value} (hy : Yes ops A ⟨dst, .extract x fi, ty, pos, after, guard⟩) (hx : slotS A x = Is1 v)
    (hrun : ∀ (ρ : Operand → Value) (w : World), Le W w → ρ x = v → (execOp ρ ⟨dst, .extract x fi, ty, pos, after, guard⟩).run P w = .ok (.value u) w) (h : wpR P ops Le W Q rest (upd A dst (Is1 u))) :
    wpR P ops Le W Q (⟨dst, .extract x fi, ty, pos, after, guard⟩ :: rest) A := wpR_one hL x (by simp [Op.operands, Call.operands]) hy hx hrun h

/-- what a call gives -/
abbrev CallGives (P : Program) (Le : World → World → Prop) (f : FuncId) (args : Array Value) (w : World) (V : KSet) : Prop := Calls P f args w fun e w'' => ∃ u, e = .returned u ∧ Le w w'' ∧ V w'' u

theorem wpR_call1 (hL : Good Le) {f : FuncId} {ats : Array TypeId} {S : KSet} (V : KSet) (hin : ∀ (xs : Array Value) (w' : World), (callFunc f xs).run P w' = .ok (.enter f xs) w')
    (hy : Yes ops A ⟨dst, .call { callee := .value (.func f), args := #[x], argTypes := ats }, ty, pos, after, guard⟩) (hS : slotS A x = S)
    (hm : Mon Le V) (hcall : ∀ u w, Le W w → S w u → CallGives P Le f #[u] w V) (h : wpR P ops Le W Q rest (upd A dst V)) :
    wpR P ops Le W Q (⟨dst, .call { callee := .value (.func f), args := #[x], argTypes := ats }, ty, pos, after, guard⟩ :: rest) A := by
  subst hS
  refine ⟨_, hm, ?_, h⟩
  intro w hw a ha
  rw [hy w a ha]
  refine ⟨fun _ => ?_, fun h => by cases h⟩
  rw [execOp_call_go]
  have e : (#[] ++ Array.map a.eval #[x] ++ #[] : Array Value) = #[a.eval x] := by simp
  rw [e, hin]
  exact hcall _ w hw (fits_eval ha x (looks_op (by simp [Op.operands, Call.operands])))
theorem wpR_call2 (hL : Good Le) {f : FuncId} {ats : Array TypeId} {S S2 : KSet} (V : KSet) (hin : ∀ (xs : Array Value) (w' : World), (callFunc f xs).run P w' = .ok (.enter f xs) w')
    (hy : Yes ops A ⟨dst, .call { callee := .value (.func f), args := #[x, x2], argTypes := ats }, ty, pos, after, guard⟩) (hS : slotS A x = S) (hS2 : slotS A x2 = S2)
    (hm : Mon Le V) (hcall : ∀ u u2 w, Le W w → S w u → S2 w u2 → CallGives P Le f #[u, u2] w V) (h : wpR P ops Le W Q rest (upd A dst V)) :
    wpR P ops Le W Q (⟨dst, .call { callee := .value (.func f), args := #[x, x2], argTypes := ats }, ty, pos, after, guard⟩ :: rest) A := by
  subst hS; subst hS2
  refine ⟨_, hm, ?_, h⟩
  intro w hw a ha
  rw [hy w a ha]
  refine ⟨fun _ => ?_, fun h => by cases h⟩
  rw [execOp_call_go]
  have e : (#[] ++ Array.map a.eval #[x, x2] ++ #[] : Array Value) = #[a.eval x, a.eval x2] := by simp
  rw [e, hin]
  exact hcall _ _ w hw (fits_eval ha x (looks_op (by simp [Op.operands, Call.operands]))) (fits_eval ha x2 (looks_op (by simp [Op.operands, Call.operands])))
theorem wpR_call3 (hL : Good Le) {f : FuncId} {ats : Array TypeId} {S S2 S3 : KSet} (V : KSet) (hin : ∀ (xs : Array Value) (w' : World), (callFunc f xs).run P w' = .ok (.enter f xs) w')
    (hy : Yes ops A ⟨dst, .call { callee := .value (.func f), args := #[x, x2, x3], argTypes := ats }, ty, pos, after, guard⟩) (hS : slotS A x = S) (hS2 : slotS A x2 = S2) (hS3 : slotS A x3 = S3)
    (hm : Mon Le V) (hcall : ∀ u u2 u3 w, Le W w → S w u → S2 w u2 → S3 w u3 → CallGives P Le f #[u, u2, u3] w V) (h : wpR P ops Le W Q rest (upd A dst V)) :
    wpR P ops Le W Q (⟨dst, .call { callee := .value (.func f), args := #[x, x2, x3], argTypes := ats }, ty, pos, after, guard⟩ :: rest) A := by
  subst hS; subst hS2; subst hS3
  refine ⟨_, hm, ?_, h⟩
  intro w hw a ha
  rw [hy w a ha]
  refine ⟨fun _ => ?_, fun h => by cases h⟩
  rw [execOp_call_go]
  have e : (#[] ++ Array.map a.eval #[x, x2, x3] ++ #[] : Array Value) = #[a.eval x, a.eval x2, a.eval x3] := by simp
  rw [e, hin]
  exact hcall _ _ _ w hw (fits_eval ha x (looks_op (by simp [Op.operands, Call.operands]))) (fits_eval ha x2 (looks_op (by simp [Op.operands, Call.operands]))) (fits_eval ha x3 (looks_op (by simp [Op.operands, Call.operands])))
theorem wpR_call4 (hL : Good Le) {f : FuncId} {ats : Array TypeId} {S S2 S3 S4 : KSet} (V : KSet) (hin : ∀ (xs : Array Value) (w' : World), (callFunc f xs).run P w' = .ok (.enter f xs) w')
    (hy : Yes ops A ⟨dst, .call { callee := .value (.func f), args := #[x, x2, x3, x4], argTypes := ats }, ty, pos, after, guard⟩) (hS : slotS A x = S) (hS2 : slotS A x2 = S2) (hS3 : slotS A x3 = S3) (hS4 : slotS A x4 = S4)
    (hm : Mon Le V) (hcall : ∀ u u2 u3 u4 w, Le W w → S w u → S2 w u2 → S3 w u3 → S4 w u4 → CallGives P Le f #[u, u2, u3, u4] w V) (h : wpR P ops Le W Q rest (upd A dst V)) :
    wpR P ops Le W Q (⟨dst, .call { callee := .value (.func f), args := #[x, x2, x3, x4], argTypes := ats }, ty, pos, after, guard⟩ :: rest) A := by
  subst hS; subst hS2; subst hS3; subst hS4
  refine ⟨_, hm, ?_, h⟩
  intro w hw a ha
  rw [hy w a ha]
  refine ⟨fun _ => ?_, fun h => by cases h⟩
  rw [execOp_call_go]
  have e : (#[] ++ Array.map a.eval #[x, x2, x3, x4] ++ #[] : Array Value) = #[a.eval x, a.eval x2, a.eval x3, a.eval x4] := by simp
  rw [e, hin]
  exact hcall _ _ _ _ w hw (fits_eval ha x (looks_op (by simp [Op.operands, Call.operands]))) (fits_eval ha x2 (looks_op (by simp [Op.operands, Call.operands]))) (fits_eval ha x3 (looks_op (by simp [Op.operands, Call.operands]))) (fits_eval ha x4 (looks_op (by simp [Op.operands, Call.operands])))
theorem wpR_callv2 (hL : Good Le) {f : FuncId} {cap : Array Value} {ats : Array TypeId} {S S2 : KSet} (V : KSet) (hin : ∀ (xs : Array Value) (w' : World), (callFunc f xs).run P w' = .ok (.enter f xs) w') {j : Nat}
    (hy : Yes ops A ⟨dst, .call { callee := .value (.tmp j), args := #[x, x2], argTypes := ats }, ty, pos, after, guard⟩) (hf : slotS A (.tmp j) = Is1 (.func (.func f) #[] cap)) (hS : slotS A x = S) (hS2 : slotS A x2 = S2)
    (hm : Mon Le V) (hcall : ∀ u u2 w, Le W w → S w u → S2 w u2 → CallGives P Le f (#[u, u2] ++ cap) w V) (h : wpR P ops Le W Q rest (upd A dst V)) :
    wpR P ops Le W Q (⟨dst, .call { callee := .value (.tmp j), args := #[x, x2], argTypes := ats }, ty, pos, after, guard⟩ :: rest) A := by
  subst hS; subst hS2
  refine ⟨_, hm, ?_, h⟩
  intro w hw a ha
  rw [hy w a ha]
  refine ⟨fun _ => ?_, fun h => by cases h⟩
  have ef : a.eval (.tmp j) = .func (.func f) #[] cap := by
    have := fits_eval ha (.tmp j) (looks_op (by simp [Op.operands, Call.operands])); rw [hf] at this; exact this
  have hc := hcall _ _ w hw (fits_eval ha x (looks_op (by simp [Op.operands, Call.operands]))) (fits_eval ha x2 (looks_op (by simp [Op.operands, Call.operands])))
  have e : (execOp a.eval ⟨dst, .call { callee := .value (.tmp j), args := #[x, x2], argTypes := ats }, ty, pos, after, guard⟩).run P w = .ok (.enter f (#[a.eval x, a.eval x2] ++ cap)) w := by
    have h0 := hin (#[a.eval x, a.eval x2] ++ cap) w
    simp [execOp, resolve, invoke, ef] at h0 ⊢
    exact h0
  rw [e]
  exact hc

/-- a new row of one element -/
def NewOne (E : TypeId) (W : World) (S : KSet) : KSet := fun w u => ∃ b v, u = .slice (some ⟨b, 0, none⟩) 1 1 ∧ W.heap.size ≤ b ∧ w.heap[b]? = some (.cells #[v] E (0, 0)) ∧ S w v

theorem mon_new (E : TypeId) (W : World) {S : KSet} (hS : Mon Bel S) : Mon Bel (NewOne E W S) := fun w w' u hb ⟨b, v, h1, h2, h3, h4⟩ =>
  ⟨b, v, h1, h2, by rw [hb.block b (Array.getElem?_eq_some_iff.1 h3).1]; exact h3, hS _ _ _ hb h4⟩
theorem wpR_new1 {t : TypeId} {E : TypeId} {k : FloatKind} {X : Nat} (hy : Yes ops A ⟨dst, .buildSlice t 1 #[(0, x)], ty, pos, after, guard⟩) (hS : slotS A x = IsF k X)
    (hrun : ∀ (ρ : Operand → Value) (w : World) (r : Nat), ρ x = .float k r → (execOp ρ ⟨dst, .buildSlice t 1 #[(0, x)], ty, pos, after, guard⟩).run P w = .ok (.value (.slice (some ⟨w.heap.size, 0, none⟩) 1 1)) (w.alloc (.cells #[.float k r] E (0, 0))))
    (h : wpR P ops Bel W Q rest (upd A dst (NewOne E W (IsF k X)))) :
    wpR P ops Bel W Q (⟨dst, .buildSlice t 1 #[(0, x)], ty, pos, after, guard⟩ :: rest) A := by
  refine ⟨_, mon_new E W (mon_isF k X), gives_run hy fun w hw a ha => ?_, h⟩
  have hv := fits_eval ha x (looks_op (by simp [Op.operands]))
  rw [hS] at hv
  obtain ⟨r, e, hr⟩ := hv
  exact ⟨_, _, hrun a.eval w r e, (Bel.refl w).alloc _, w.heap.size, _, rfl, hw.size, heap_alloc_new w _, r, rfl, hr⟩

theorem wpR_new1x {t : TypeId} {E : TypeId} {k : FloatKind} {b X : Nat} (hy : Yes ops A ⟨dst, .buildSlice t 1 #[(0, x)], ty, pos, after, guard⟩) (hS : slotS A x = Is1 (.float k b)) (hX : Is k b X)
    (hrun : ∀ (ρ : Operand → Value) (w : World) (r : Nat), ρ x = .float k r → (execOp ρ ⟨dst, .buildSlice t 1 #[(0, x)], ty, pos, after, guard⟩).run P w = .ok (.value (.slice (some ⟨w.heap.size, 0, none⟩) 1 1)) (w.alloc (.cells #[.float k r] E (0, 0))))
    (h : wpR P ops Bel W Q rest (upd A dst (NewOne E W (IsF k X)))) :
    wpR P ops Bel W Q (⟨dst, .buildSlice t 1 #[(0, x)], ty, pos, after, guard⟩ :: rest) A := by
  refine ⟨_, mon_new E W (mon_isF k X), gives_run hy fun w hw a ha => ?_, h⟩
  have e := fits_eval ha x (looks_op (by simp [Op.operands]))
  rw [hS] at e
  exact ⟨_, _, hrun a.eval w b e, (Bel.refl w).alloc _, w.heap.size, _, rfl, hw.size, heap_alloc_new w _, b, rfl, hX⟩

/-! ### behind the region -/
inductive All2 (w : World) : Known → List Value → Prop
  | nil : All2 w [] []
  | cons {S : KSet} {v : Value} {A : Known} {l : List Value} (h : S w v) (r : All2 w A l) : All2 w (S :: A) (v :: l)

theorem all2_of {w : World} : ∀ (A : Known) (l : List Value), A.length = l.length → (∀ (t : Nat) (S : KSet) (v : Value), A[t]? = some S → l[t]? = some v → S w v) → All2 w A l
  | [], [], _, _ => .nil
  | [], _ :: _, h, _ => by cases h
  | _ :: _, [], h, _ => by cases h
  | S :: A, v :: l, h, H => .cons (H 0 S v rfl rfl) (all2_of A l (by simpa using h) fun t S' v' h1 h2 => H (t + 1) S' v' (by simpa using h1) (by simpa using h2))

theorem wpR_end {Q' : Exit → Act → World → Prop} {D : List Deferred} {lt : List Oper} (h : ∀ w, Le W w → ∀ l, All2 w A l → wpList P ops Q' lt ⟨l.toArray, D⟩ w) :
    wpR P ops Le W (fun A' => ∀ a' w', Le W w' → Fits A' w' a' → a'.defers = D → wpList P ops Q' lt a' w') [] A := by
  intro a' w' hw ha hd
  obtain ⟨tmps, defers⟩ := a'
  cases hd
  have := h w' hw tmps.toList (all2_of _ _ (by simpa using ha.1) fun t S v h1 h2 => ha.2 t S v h1 (by simpa using h2))
  simpa using this

theorem all2_is1 {w : World} {G : List Value → Prop} {c : Value} (h : ∀ l, All2 w A l → G (c :: l)) : ∀ l, All2 w (Is1 c :: A) l → G l := by
  intro l hl
  cases hl with
  | cons h1 r => cases h1; exact h _ r
theorem all2_isF {w : World} {G : List Value → Prop} {k : FloatKind} {X : Nat} (h : ∀ b, Is k b X → ∀ l, All2 w A l → G (.float k b :: l)) : ∀ l, All2 w (IsF k X :: A) l → G l := by
  intro l hl
  cases hl with
  | cons h1 r => obtain ⟨b, rfl, hb⟩ := h1; exact h b hb _ r
theorem all2_any {w : World} {G : List Value → Prop} {S : KSet} (h : ∀ v, S w v → ∀ l, All2 w A l → G (v :: l)) : ∀ l, All2 w (S :: A) l → G l := by
  intro l hl
  cases hl with
  | cons h1 r => exact h _ h1 _ r
theorem all2_nil {w : World} {G : List Value → Prop} (h : G []) : ∀ l, All2 w [] l → G l := by
  intro l hl
  cases hl; exact h

/-- the operations that are told by their places -/
def pick (l : List Oper) : List Nat → List Oper
  | [] => []
  | i :: is => l[i]?.toList ++ pick l is
theorem pick_eq (l : List Oper) : ∀ is : List Nat, (is.all fun i => decide (i < l.length)) = true → is.map (l[·]?) = (pick l is).map some
  | [], _ => rfl
  | i :: is, h => by
    simp only [List.all_cons, Bool.and_eq_true, decide_eq_true_eq] at h
    have h1 : l[i]? = some (l[i]'h.1) := List.getElem?_eq_getElem h.1
    simp only [List.map_cons, pick, h1, Option.toList, List.singleton_append]
    rw [pick_eq l is h.2]

/-- **the region, by places** -/
theorem region_K {id : Nat} {Q : Exit → Act → World → Prop} {tmps : List Value} {D : List Deferred} {l : List Oper} (pre tail : List Nat) (hL : Good Le)
    (hm : P.follows .mixedOrders = true) (hB : planB .any l.toArray pre tail = true) (h1 : (pre.all fun i => decide (i < l.length)) = true) (h2 : (tail.all fun i => decide (i < l.length)) = true)
    (h : wpR P l.toArray Le W (fun A' => ∀ a' w', Le W w' → Fits A' w' a' → a'.defers = D → wpList P l.toArray Q (pick l tail) a' w') (pick l pre) (tmps.map Is1)) :
    (Code.region id l.toArray true).wp P Q ⟨tmps.toArray, D⟩ W :=
  wp_region_K pre tail hL.refl hL.trans (fun w => hL.draw w 1) hm hB (pick_eq l pre h1) (pick_eq l tail h2) h
end
end Go.Rk
end

/-
  CONTRACTS: slices of integers: copied, compared, marked, held.
-/
section
set_option linter.unusedSimpArgs false
set_option linter.unusedVariables false
namespace Go.Proofs.YtianaalokclklaaGreatDoor
open Go.RowKit Go.Fl

theorem infoI64s : (Tryz.prog.info? 2).map (fun i => (i.zero, i.size, i.bytes)) = some (some (.int .i64 0), 1, 8) := by kernel_rfl
theorem mk_addI (k j : Nat) : ((k + j : Nat) : Int) + 1 = ((k + (j + 1) : Nat) : Int) := by omega
theorem val_i64I {a b : Int} (h : a = b) : Value.int .i64 a = .int .i64 b := by rw [h]
end Go.Proofs.YtianaalokclklaaGreatDoor
end

/-
  CONTRACTS: lists of integers: which are valid; their text.
-/
section
set_option linter.unusedSimpArgs false
set_option linter.unusedVariables false
namespace Go.Proofs.YtianaalokclklaaGreatDoor
open Go.RowKit Go.Fl

def inB (x lo hi : Int) : Bool := decide (lo ≤ x) && decide (x ≤ hi)
theorem inB_iff {x lo hi : Int} : inB x lo hi = true ↔ lo ≤ x ∧ x ≤ hi := by unfold inB; simp
/-- a call that leaves the world as it was -/
def ERet (v : Value) (w : World) (e : Ending) (w' : World) : Prop := e = .returned v ∧ w = w'
theorem within_any (x lo hi : Int) (w : World) : Calls Tryz.prog 54 #[.int .i64 x, .int .i64 lo, .int .i64 hi] w (ERet (.bool (inB x lo hi)) w) := by
  by_cases h : lo ≤ x
  · have he := Lib.hid (show decide (x ≤ hi) = inB x lo hi by unfold inB; rw [decide_eq_true h]; rfl)
    go_enter Tryz.func54, Tryz.ntmps54
    go_wp2
    go_ret
    exact ⟨ret_bool he.out, rfl⟩
  · have he := Lib.hid (show false = inB x lo hi by unfold inB; rw [decide_eq_false h]; rfl)
    go_enter Tryz.func54, Tryz.ntmps54
    go_wp2
    go_ret
    exact ⟨ret_bool he.out, rfl⟩
/-- each number in the bounds -/
def inAll (z : Nat → Int) (n : Nat) : Bool := allB (fun i => inB (z i) (-1000000000000000) 1000000000000000) n
def listB (z : Nat → Int) (n : Nat) : Bool := inAll z n && decide (n ≤ 64)
theorem le64_int (n : Nat) : decide ((n : Int) ≤ 64) = decide (n ≤ 64) := by rw [decide_eq_decide]; omega
end Go.Proofs.YtianaalokclklaaGreatDoor
end

/-
  PLAIN LAWS: the text of a list of integers. (No program here.)
-/
section
set_option linter.unusedVariables false
set_option linter.unusedSimpArgs false
namespace Go.Fl
open Go Go.RowKit

theorem dd_len : ∀ (k u : Nat), u < 10 ^ (k + 1) → (Lib.decDigits u).length ≤ k + 1
  | 0, u, h => by rw [dd_small (by simpa using h)]; simp
  | k + 1, u, h => by
    by_cases g : u < 10
    · rw [dd_small g]; simp
    · rw [dd_step g, List.length_append]
      have := dd_len k (u / 10) (by rw [Nat.pow_succ] at h; omega)
      simp only [List.length_singleton]; omega
theorem itoa_len {n : Int} (h1 : -9223372036854775808 ≤ n) (h2 : n ≤ 9223372036854775807) : (Lib.itoa n).length ≤ 20 := by
  have e : (10 : Nat) ^ (18 + 1) = 10000000000000000000 := by decide
  by_cases h : n < 0
  · rw [itoa_neg h]
    have := dd_len 18 n.natAbs (by rw [e]; omega)
    simp; omega
  · rw [itoa_nonneg h]
    have := dd_len 18 n.natAbs (by rw [e]; omega)
    omega
theorem join_snoc (x : List UInt8) (r : List (List UInt8)) (y sep : List UInt8) : Lib.join (x :: r ++ [y]) sep = Lib.join (x :: r) sep ++ (sep ++ y) := by
  rw [List.cons_append, Lib.join_cons, Lib.join_cons]
  unfold Lib.joinTail
  rw [List.map_append, List.flatten_append, List.append_assoc]
  simp
/-- the texts, with a comma between two -/
def tx (f : Nat → List UInt8) : Nat → List UInt8
  | 0 => []
  | 1 => f 0
  | k + 2 => tx f (k + 1) ++ 44 :: f (k + 1)
theorem tx_succ (f : Nat → List UInt8) {k : Nat} (h : 1 ≤ k) : tx f (k + 1) = tx f k ++ 44 :: f k := by
  obtain ⟨j, rfl⟩ : ∃ j, k = j + 1 := ⟨k - 1, by omega⟩
  rfl
theorem tx_join (f : Nat → List UInt8) (k : Nat) : tx f (k + 1) = Lib.join ((List.range (k + 1)).map f) [44] := by
  induction k with
  | zero => simp [tx, Lib.join_one]
  | succ k ih =>
    rw [List.range_succ, List.map_append, tx, ih]
    obtain ⟨x, r, e⟩ : ∃ x r, (List.range (k + 1)).map f = x :: r := by
      cases hL : (List.range (k + 1)).map f with
      | nil => have := congrArg List.length hL; simp at this
      | cons x r => exact ⟨x, r, rfl⟩
    rw [e, List.map_singleton, join_snoc]
    rfl
theorem tx_len (f : Nat → List UInt8) (m n : Nat) (h : ∀ i, i < n → (f i).length ≤ m) : ∀ k, k ≤ n → (tx f k).length ≤ (m + 1) * k
  | 0, _ => by simp [tx]
  | 1, hk => by have := h 0 (by omega); simp only [tx]; omega
  | k + 2, hk => by
    have h1 := tx_len f m n h (k + 1) (by omega)
    have h2 := h (k + 1) (by omega)
    simp only [tx, List.length_append, List.length_cons]
    have : (m + 1) * (k + 2) = (m + 1) * (k + 1) + (m + 1) := by rw [Nat.mul_succ]
    omega
/-- 'none' for no text -/
def txt (f : Nat → List UInt8) (n : Nat) : List UInt8 := if n = 0 then [110, 111, 110, 101] else tx f n
/-- the row of the texts -/
def strs (f : Nat → List UInt8) (n : Nat) : List ByteArray := (List.range n).map fun i => ⟨(f i).toArray⟩
theorem strs_len (f : Nat → List UInt8) (n : Nat) : (strs f n).length = n := by simp [strs]
theorem strs_at (f : Nat → List UInt8) {n j : Nat} (h : j < n) : (strs f n)[j]? = some ⟨(f j).toArray⟩ := by simp [strs, h]
theorem strs_lists (f : Nat → List UInt8) (n : Nat) : (strs f n).map (·.data.toList) = (List.range n).map f := by simp [strs, Function.comp_def]
theorem strs_succ (f : Nat → List UInt8) (n : Nat) : (strs f (n + 1)).map Value.string = (strs f n).map Value.string ++ [.string ⟨(f n).toArray⟩] := by
  unfold strs; rw [List.range_succ]; simp
theorem txt_join (f : Nat → List UInt8) {n : Nat} (h : 1 ≤ n) : Lib.join ((strs f n).map (·.data.toList)) [44] = txt f n := by
  obtain ⟨k, rfl⟩ : ∃ k, n = k + 1 := ⟨n - 1, by omega⟩
  rw [strs_lists, ← tx_join]
  rfl
end Go.Fl
end

/-
  PLAIN LAWS: the number whose decimal text a text is. (No program here.)
-/
section
set_option linter.unusedVariables false
set_option linter.unusedSimpArgs false
namespace Go.Fl
open Go Go.RowKit

def inD (x lo hi : Int) : Bool := decide (lo ≤ x) && decide (x ≤ hi)
theorem inD_iff {x lo hi : Int} : inD x lo hi = true ↔ lo ≤ x ∧ x ≤ hi := by unfold inD; simp
abbrev inV (v : Int) : Bool := inD v (-1000000000000000) 1000000000000000
def dstep (a : Nat) (c : UInt8) : Nat := if 48 ≤ c.toNat ∧ c.toNat ≤ 57 then 10 * a + (c.toNat - 48) else a
def valD (l : List UInt8) : Nat := l.foldl dstep 0
def valS (l : List UInt8) : Int := if l.getD 0 0 = 45 then -(valD l : Int) else (valD l : Int)
def decB (l : List UInt8) : Bool := inV (valS l) && (Lib.itoa (valS l) == l)
theorem valD_snoc (l : List UInt8) (c : UInt8) : valD (l ++ [c]) = dstep (valD l) c := by unfold valD; rw [List.foldl_append]; rfl
theorem valD_take {l : List UInt8} {k : Nat} (h : k < l.length) : valD (l.take (k + 1)) = dstep (valD (l.take k)) (l.getD k 0) := by
  rw [List.take_add_one, List.getElem?_eq_getElem h, List.getD_eq_getElem?_getD, List.getElem?_eq_getElem h]
  exact valD_snoc _ _
theorem dstep_digit {a d : Nat} (h : d < 10) : dstep a (UInt8.ofNat (48 + d)) = 10 * a + d := by
  unfold dstep
  rw [digit_nat h, if_pos (by omega)]
  omega
theorem valD_dd : ∀ (u : Nat), valD (Lib.decDigits u) = u := by
  intro u
  induction u using Nat.strongRecOn with
  | ind u ih =>
    by_cases h : u < 10
    · rw [dd_small h]
      show dstep 0 _ = _
      rw [dstep_digit h]; omega
    · rw [dd_step h, valD_snoc, ih (u / 10) (by omega), dstep_digit (by omega)]
      omega
theorem dd_digits : ∀ (u : Nat), ∀ c ∈ Lib.decDigits u, 48 ≤ c.toNat ∧ c.toNat ≤ 57 := by
  intro u
  induction u using Nat.strongRecOn with
  | ind u ih =>
    intro c hc
    by_cases h : u < 10
    · rw [dd_small h] at hc
      obtain rfl := List.mem_singleton.1 hc
      rw [digit_nat h]; omega
    · rw [dd_step h, List.mem_append] at hc
      rcases hc with hc | hc
      · exact ih (u / 10) (by omega) c hc
      · obtain rfl := List.mem_singleton.1 hc
        rw [digit_nat (by omega)]; omega
theorem dd_ne (u : Nat) : Lib.decDigits u ≠ [] := by
  by_cases h : u < 10
  · rw [dd_small h]; simp
  · rw [dd_step h]; simp
theorem dd_head (u : Nat) : ∃ c r, Lib.decDigits u = c :: r ∧ 48 ≤ c.toNat ∧ c.toNat ≤ 57 := by
  cases hd : Lib.decDigits u with
  | nil => exact absurd hd (dd_ne u)
  | cons c r => exact ⟨c, r, rfl, dd_digits u c (by rw [hd]; simp)⟩
theorem valS_itoa (v : Int) : valS (Lib.itoa v) = v := by
  by_cases h : v < 0
  · rw [itoa_neg h]
    unfold valS
    rw [if_pos (by rfl)]
    have e : valD (45 :: Lib.decDigits v.natAbs) = valD (Lib.decDigits v.natAbs) := rfl
    rw [e, valD_dd]; omega
  · rw [itoa_nonneg h]
    obtain ⟨c, r, e, h1, h2⟩ := dd_head v.natAbs
    unfold valS
    rw [if_neg (by rw [e]; intro g; have : c = 45 := g; subst this; revert h1; decide), valD_dd]; omega
theorem parse_app (M : Nat) : ∀ (xs ys : List UInt8) (acc a : Nat), Lib.parseUintM M acc xs = .ok a → Lib.parseUintM M acc (xs ++ ys) = Lib.parseUintM M a ys
  | [], ys, acc, a, h => by
    simp only [Lib.parseUintM] at h
    injection h with h
    rw [h]; rfl
  | c :: r, ys, acc, a, h => by
    simp only [Lib.parseUintM, List.cons_append] at h ⊢
    split at h
    · rename_i g; rw [if_pos g]
      split at h
      · cases h
      · rename_i g2; rw [if_neg g2]
        split at h
        · cases h
        · rename_i g3; rw [if_neg g3]
          exact parse_app M r ys _ a h
    · cases h
theorem parse_one {M acc d : Nat} (h : d < 10) (h1 : acc < 1844674407370955162) (h2 : acc * 10 + d ≤ M) : Lib.parseUintM M acc [UInt8.ofNat (48 + d)] = .ok (acc * 10 + d) := by
  simp only [Lib.parseUintM]
  rw [digit_nat h, if_pos (by omega), if_neg (by omega), show 48 + d - 48 = d by omega, if_neg (by omega)]
theorem parse_dd {M : Nat} : ∀ (u : Nat), u ≤ M → u < 10000000000000000000 → Lib.parseUintM M 0 (Lib.decDigits u) = .ok u := by
  intro u
  induction u using Nat.strongRecOn with
  | ind u ih =>
    intro hM hu
    by_cases h : u < 10
    · rw [dd_small h, parse_one h (by omega) (by omega)]; congr 1; omega
    · rw [dd_step h, parse_app _ _ _ _ (u / 10) (ih (u / 10) (by omega) (by omega) (by omega)), parse_one (by omega) (by omega) (by omega)]
      congr 1; omega
theorem parse_itoa {v : Int} (h1 : -1000000000000000 ≤ v) (h2 : v ≤ 1000000000000000) : Lib.parseIntB 64 (Lib.itoa v) = .ok v := by
  have hu : Lib.parseUintB 64 (Lib.decDigits v.natAbs) = .ok v.natAbs := by
    unfold Lib.parseUintB
    rw [if_neg (dd_ne _)]
    exact parse_dd _ (by have : (2 : Nat) ^ 64 - 1 = 18446744073709551615 := by decide
                         omega) (by omega)
  have e63 : (2 : Nat) ^ (64 - 1) = 9223372036854775808 := by decide
  by_cases h : v < 0
  · rw [itoa_neg h, Lib.parseIntB_minus, hu]
    simp only [Lib.signedC, e63]
    rw [if_neg (by omega)]
    congr 1; omega
  · rw [itoa_nonneg h]
    obtain ⟨c, r, e, g1, g2⟩ := dd_head v.natAbs
    rw [e] at hu
    rw [e, Lib.parseIntB_plain 64 c r (by omega) (by omega), hu]
    simp only [Lib.signlessC, e63]
    rw [if_neg (by omega)]
    congr 1; omega
theorem decB_iff {l : List UInt8} : decB l = true ↔ ∃ v, inV v = true ∧ Lib.itoa v = l := by
  unfold decB
  rw [Bool.and_eq_true, beq_iff_eq]
  constructor
  · rintro ⟨h1, h2⟩; exact ⟨_, h1, h2⟩
  · rintro ⟨v, h1, rfl⟩; rw [valS_itoa]; exact ⟨h1, rfl⟩
theorem decB_parse {l : List UInt8} (h : decB l = true) : Lib.parseIntB 64 l = .ok (valS l) := by
  unfold decB at h
  rw [Bool.and_eq_true, beq_iff_eq] at h
  obtain ⟨h1, h2⟩ := inD_iff.1 h.1
  rw [← h.2, parse_itoa h1 h2, h.2]
theorem decB_len {l : List UInt8} (h : decB l = true) : 1 ≤ l.length ∧ l.length ≤ 17 := by
  obtain ⟨v, h1, rfl⟩ := decB_iff.1 h
  obtain ⟨h1, h2⟩ := inD_iff.1 h1
  have e : (10 : Nat) ^ (15 + 1) = 10000000000000000 := by decide
  have hl := dd_len 15 v.natAbs (by rw [e]; omega)
  have hn : 0 < (Lib.decDigits v.natAbs).length := List.length_pos_iff.2 (dd_ne _)
  by_cases hv : v < 0
  · rw [itoa_neg hv]; simp; omega
  · rw [itoa_nonneg hv]; omega
theorem valD_bd : ∀ (l : List UInt8), valD l < 10 ^ l.length := by
  intro l
  induction h : l.length generalizing l with
  | zero => rw [List.length_eq_zero_iff.1 h]; decide
  | succ k ih =>
    obtain ⟨m, c, rfl⟩ : ∃ m c, l = m ++ [c] := by
      rcases List.eq_nil_or_concat l with e | ⟨m, c, e⟩
      · rw [e] at h; cases h
      · exact ⟨m, c, by simpa using e⟩
    rw [List.length_append] at h
    have := ih m (by simpa using h)
    rw [valD_snoc, Nat.pow_succ]
    unfold dstep
    split <;> omega
end Go.Fl
end

/-
  THE LAW 'FnExactReadDecimal': its contracts and its walk.
-/
section
set_option linter.unusedSimpArgs false
set_option linter.unusedVariables false
namespace Go.Proofs.YtianaalokclklaaGreatDoor
open Go.RowKit Go.Fl

theorem inV_eq (v : Int) : inV v = inB v (-1000000000000000) 1000000000000000 := rfl
/-- the number whose text a text is -/
def VRt (l : List UInt8) (w : World) (e : Ending) (w' : World) : Prop := e = .returned (.tuple #[.int .i64 (if decB l then valS l else 0), .bool (decB l)]) ∧ Bel w w'
theorem byte_at {l : List UInt8} {k : Nat} (h : k < l.length) : ((⟨l.toArray⟩ : ByteArray)[k]'(by simpa [ByteArray.size] using h)).toNat = (l.getD k 0).toNat := by
  rw [List.getD_eq_getElem?_getD, List.getElem?_eq_getElem h]
  rfl
theorem size_at (l : List UInt8) : (⟨l.toArray⟩ : ByteArray).size = l.length := by simp [ByteArray.size]
theorem toList_at (l : List UInt8) : (⟨l.toArray⟩ : ByteArray).toList = l := by simp
/-- the state of the loop: 'a' is what the first 'k' bytes tell -/
structure VInv (l : List UInt8) (k a : Nat) : Prop where
  eq : a = valD (l.take k)
  bd : a < 100000000000000000
theorem VInv.start (l : List UInt8) : VInv l 0 0 := ⟨rfl, by omega⟩
theorem VInv.next {l : List UInt8} {k a : Nat} (h : VInv l k a) (hk : k < l.length) (hl : l.length ≤ 17) : VInv l (k + 1) (dstep a (l.getD k 0)) := by
  have e : valD (l.take (k + 1)) = dstep a (l.getD k 0) := by rw [valD_take hk, h.eq]
  refine ⟨e.symm, ?_⟩
  rw [← e]
  have h1 := valD_bd (l.take (k + 1))
  have h2 : (l.take (k + 1)).length ≤ 17 := by rw [List.length_take]; omega
  exact Nat.lt_of_lt_of_le h1 (Nat.le_trans (Nat.pow_le_pow_right (by omega) h2) (by decide))
/-- what stands in the two variables of package strconv -/
def Errs (w : World) : Prop := (∃ tp p, w.var? Tryz.prog "strconv.ErrSyntax" = some #[.iface tp p]) ∧ ∃ tp p, w.var? Tryz.prog "strconv.ErrRange" = some #[.iface tp p]
theorem errs_bel {w w' : World} (h : Errs w) (hb : Bel w w') : Errs w' := by
  obtain ⟨⟨t, p, h1⟩, t2, p2, h2⟩ := h
  exact ⟨⟨t, p, var_bel h1 hb⟩, t2, p2, var_bel h2 hb⟩
theorem nameES (u : TypeId) (h : Tryz.prog.typeName? 3 u = some "*errors.errorString") : u = 155 :=
  typeName_ptr_named (nm := "errors.errorString") (by rw [show "*" ++ "errors.errorString" = "*errors.errorString" by decide]; kernel_rfl) (by kernel_rfl) (by decide) u (by rw [show "*" ++ "errors.errorString" = "*errors.errorString" by decide]; exact h)
theorem gES : Tryz.prog.globalNamed "strconv.ErrSyntax" = some 2 := by kernel_rfl
theorem gESt : (Tryz.prog.globals[2]?).map (·.type) = some 95 := by kernel_rfl
theorem gER : Tryz.prog.globalNamed "strconv.ErrRange" = some 3 := by kernel_rfl
theorem gERt : (Tryz.prog.globals[3]?).map (·.type) = some 95 := by kernel_rfl
theorem cells137 : Tryz.prog.cellsOf 157 = 1 := by kernel_rfl
theorem cells9 : Tryz.prog.cellsOf 9 = 1 := by kernel_rfl
theorem sent {n : String} {text : List UInt8} {r : List (String × DataW Unit)} {W : World} {g : Nat}
    (h : laidMet Tryz.prog ((n, .iface "*errors.errorString" (.ptr (.agg [.lit (.string text)]))) :: r) W) (hg : Tryz.prog.globalNamed n = some g) (ht : (Tryz.prog.globals[g]?).map (·.type) = some 95) :
    ∃ tp p, W.var? Tryz.prog n = some #[.iface tp p] := by
  obtain ⟨a, s, h1, _⟩ := laid_sentinel h hg ht Tryz.underlying95 nameES Tryz.underlying155 Tryz.underlying157 rfl rfl Tryz.underlying9 cells137 cells9
  exact ⟨_, _, h1⟩
end Go.Proofs.YtianaalokclklaaGreatDoor
end

/-
  CONTRACTS: the laws' own 'sameFloat'; Go's library on the bits of floats; comparing numbers.
-/
section
set_option linter.unusedSimpArgs false
namespace Go.Proofs.YtianaalokclklaaGreatDoor
open Go.RowKit Go.Fl

end Go.Proofs.YtianaalokclklaaGreatDoor
end

/-
  CONTRACTS: the bits of 32-bit numbers; sameness; from bits.
-/
section
set_option linter.unusedSimpArgs false
namespace Go.Proofs.YtianaalokclklaaGreatDoor
open Go.RowKit Go.Fl

@[go_sem] theorem F32bits_run (b : Nat) (w : World) : (callFunc 56 #[.float .f32 b]).run Tryz.prog w = .ok (.value (.int .u32 b)) w := by
  rw [run_callFunc_extern (e := Extern.MathFloatBits.float32bits) Tryz.func56 (by kernel_rfl) (by kernel_rfl) (by kernel_rfl) (by kernel_rfl)]; rfl
@[go_sem] theorem F32from_run (n : Int) (w : World) : (callFunc 55 #[.int .u32 n]).run Tryz.prog w = .ok (.value (.float .f32 n.toNat)) w := by
  rw [run_callFunc_extern (e := Extern.MathFloatBits.float32frombits) Tryz.func55 (by kernel_rfl) (by kernel_rfl) (by kernel_rfl) (by kernel_rfl)]; rfl
@[go_sem] theorem F64bits_run (b : Nat) (w : World) : (callFunc 84 #[.float .f64 b]).run Tryz.prog w = .ok (.value (.int .u64 b)) w := by
  rw [run_callFunc_extern (e := Extern.MathFloatBits.float64bits) Tryz.func84 (by kernel_rfl) (by kernel_rfl) (by kernel_rfl) (by kernel_rfl)]; rfl
@[go_sem] theorem F64from_run (n : Int) (w : World) : (callFunc 83 #[.int .u64 n]).run Tryz.prog w = .ok (.value (.float .f64 n.toNat)) w := by
  rw [run_callFunc_extern (e := Extern.MathFloatBits.float64frombits) Tryz.func83 (by kernel_rfl) (by kernel_rfl) (by kernel_rfl) (by kernel_rfl)]; rfl

theorem is32_le {x X : Nat} (h : Is .f32 x X) : (x : Int) ≤ 4294967295 := by
  have w32 : 2 ^ FloatKind.f32.format.width = 4294967296 := by decide +kernel
  have := h.1
  omega
theorem is64_le {x X : Nat} (h : Is .f64 x X) : (x : Int) ≤ 18446744073709551615 := by
  have w64 : 2 ^ FloatKind.f64.format.width = 18446744073709551616 := by decide +kernel
  have := h.1
  omega

theorem is_wf {k : FloatKind} {b : Nat} (h : (Lit.float k b).wf = true) : Is k b (cn k b) := by
  have w32 : 2 ^ FloatKind.f32.format.width = 4294967296 := by decide +kernel
  have w64 : 2 ^ FloatKind.f64.format.width = 18446744073709551616 := by decide +kernel
  refine ⟨?_, rfl⟩
  cases k
  · rw [w32]; simpa [Lit.wf] using h
  · rw [w64]; simpa [Lit.wf] using h

theorem isn_of_fne {k : FloatKind} {X : Nat} (hn : fne k X X = true) : isn k X = true := by
  have := (fne_iff k X X).1 hn; simpa using this
theorem num_of_fne {k : FloatKind} {X : Nat} (hn : fne k X X = false) : isn k X = false := by
  cases g : isn k X
  · rfl
  · rw [(fne_iff k X X).2 (.inl g)] at hn; cases hn

theorem is_nan {k : FloatKind} {x X : Nat} (h : Is k x X) (hn : fne k X X = true) : X = qn k := h.can.nan (isn_of_fne hn)
theorem is_num {k : FloatKind} {x X : Nat} (h : Is k x X) (hn : fne k X X = false) : x = X := by
  have h1 : isn k x = false := by
    rw [← isn_cn, h.2]; exact num_of_fne hn
  rw [← h.2, cn_of_not h1]
theorem is_num' {k : FloatKind} {x X : Nat} (h : Is k x X) (hn : ¬ fne k X X = true) : x = X := is_num h (by simpa using hn)

theorem ret_i64 {a b : Int} (h : a = b) : Ending.returned (.int .i64 a) = .returned (.int .i64 b) := by rw [h]

set_option maxHeartbeats 400000 in
theorem l01Bits_any (x X : Nat) (hx : Is .f32 x X) (w : World) : Calls Tryz.prog 70 #[.float .f32 x] w fun e w' => e = .returned (.int .i64 X) ∧ w = w' := by
  have hb := is32_le hx
  go_enter Tryz.func70, Tryz.ntmps70
  go_wp2_with (first | ((with_reducible refine wpList_here ?_); (first | ((with_reducible refine wpList_feq (k := ?_) (bx := ?_) (by' := ?_) (X := ?_) (Y := ?_) ?_ ?_ ?_ ?_ ?_ ?_); rotate_left 5; (first | (with_reducible exact wanted_none) | ((with_reducible refine wanted_some ?_); rfl)); (rfl); (rfl); (first | assumption | ((refine Is.lit ?_); decide +kernel) | (refine Is.ofInt _ _)); (first | assumption | ((refine Is.lit ?_); decide +kernel) | (refine Is.ofInt _ _)); (try simp only [Act.put, List.setIfInBounds_toArray, List.set_cons_succ, List.set_cons_zero, World.drewN_drewN])) | ((with_reducible refine wpList_fne (k := ?_) (bx := ?_) (by' := ?_) (X := ?_) (Y := ?_) ?_ ?_ ?_ ?_ ?_ ?_); rotate_left 5; (first | (with_reducible exact wanted_none) | ((with_reducible refine wanted_some ?_); rfl)); (rfl); (rfl); (first | assumption | ((refine Is.lit ?_); decide +kernel) | (refine Is.ofInt _ _)); (first | assumption | ((refine Is.lit ?_); decide +kernel) | (refine Is.ofInt _ _)); (try simp only [Act.put, List.setIfInBounds_toArray, List.set_cons_succ, List.set_cons_zero, World.drewN_drewN])) | ((with_reducible refine wpList_flt (k := ?_) (bx := ?_) (by' := ?_) (X := ?_) (Y := ?_) ?_ ?_ ?_ ?_ ?_ ?_); rotate_left 5; (first | (with_reducible exact wanted_none) | ((with_reducible refine wanted_some ?_); rfl)); (rfl); (rfl); (first | assumption | ((refine Is.lit ?_); decide +kernel) | (refine Is.ofInt _ _)); (first | assumption | ((refine Is.lit ?_); decide +kernel) | (refine Is.ofInt _ _)); (try simp only [Act.put, List.setIfInBounds_toArray, List.set_cons_succ, List.set_cons_zero, World.drewN_drewN])) | ((with_reducible refine wpList_fle (k := ?_) (bx := ?_) (by' := ?_) (X := ?_) (Y := ?_) ?_ ?_ ?_ ?_ ?_ ?_); rotate_left 5; (first | (with_reducible exact wanted_none) | ((with_reducible refine wanted_some ?_); rfl)); (rfl); (rfl); (first | assumption | ((refine Is.lit ?_); decide +kernel) | (refine Is.ofInt _ _)); (first | assumption | ((refine Is.lit ?_); decide +kernel) | (refine Is.ofInt _ _)); (try simp only [Act.put, List.setIfInBounds_toArray, List.set_cons_succ, List.set_cons_zero, World.drewN_drewN])) | ((with_reducible refine wpList_fgt (k := ?_) (bx := ?_) (by' := ?_) (X := ?_) (Y := ?_) ?_ ?_ ?_ ?_ ?_ ?_); rotate_left 5; (first | (with_reducible exact wanted_none) | ((with_reducible refine wanted_some ?_); rfl)); (rfl); (rfl); (first | assumption | ((refine Is.lit ?_); decide +kernel) | (refine Is.ofInt _ _)); (first | assumption | ((refine Is.lit ?_); decide +kernel) | (refine Is.ofInt _ _)); (try simp only [Act.put, List.setIfInBounds_toArray, List.set_cons_succ, List.set_cons_zero, World.drewN_drewN])) | ((with_reducible refine wpList_fge (k := ?_) (bx := ?_) (by' := ?_) (X := ?_) (Y := ?_) ?_ ?_ ?_ ?_ ?_ ?_); rotate_left 5; (first | (with_reducible exact wanted_none) | ((with_reducible refine wanted_some ?_); rfl)); (rfl); (rfl); (first | assumption | ((refine Is.lit ?_); decide +kernel) | (refine Is.ofInt _ _)); (first | assumption | ((refine Is.lit ?_); decide +kernel) | (refine Is.ofInt _ _)); (try simp only [Act.put, List.setIfInBounds_toArray, List.set_cons_succ, List.set_cons_zero, World.drewN_drewN])))))
  all_goals go_ret
  all_goals first | exact ⟨ret_i64 (by rw [is_nan hx (by assumption)]; rfl), rfl⟩ | exact ⟨ret_i64 (by rw [is_num hx (by assumption)]), rfl⟩ | exact ⟨ret_i64 (by rw [is_num' hx (by assumption)]), rfl⟩
set_option maxHeartbeats 400000 in
theorem iBitsOf_any (x X : Nat) (hx : Is .f32 x X) (w : World) : Calls Tryz.prog 21 #[.float .f32 x] w fun e w' => e = .returned (.int .i64 X) ∧ w = w' := by
  have hb := is32_le hx
  go_enter Tryz.func21, Tryz.ntmps21
  go_wp2_with (first | ((with_reducible refine wpList_here ?_); (first | ((with_reducible refine wpList_feq (k := ?_) (bx := ?_) (by' := ?_) (X := ?_) (Y := ?_) ?_ ?_ ?_ ?_ ?_ ?_); rotate_left 5; (first | (with_reducible exact wanted_none) | ((with_reducible refine wanted_some ?_); rfl)); (rfl); (rfl); (first | assumption | ((refine Is.lit ?_); decide +kernel) | (refine Is.ofInt _ _)); (first | assumption | ((refine Is.lit ?_); decide +kernel) | (refine Is.ofInt _ _)); (try simp only [Act.put, List.setIfInBounds_toArray, List.set_cons_succ, List.set_cons_zero, World.drewN_drewN])) | ((with_reducible refine wpList_fne (k := ?_) (bx := ?_) (by' := ?_) (X := ?_) (Y := ?_) ?_ ?_ ?_ ?_ ?_ ?_); rotate_left 5; (first | (with_reducible exact wanted_none) | ((with_reducible refine wanted_some ?_); rfl)); (rfl); (rfl); (first | assumption | ((refine Is.lit ?_); decide +kernel) | (refine Is.ofInt _ _)); (first | assumption | ((refine Is.lit ?_); decide +kernel) | (refine Is.ofInt _ _)); (try simp only [Act.put, List.setIfInBounds_toArray, List.set_cons_succ, List.set_cons_zero, World.drewN_drewN])) | ((with_reducible refine wpList_flt (k := ?_) (bx := ?_) (by' := ?_) (X := ?_) (Y := ?_) ?_ ?_ ?_ ?_ ?_ ?_); rotate_left 5; (first | (with_reducible exact wanted_none) | ((with_reducible refine wanted_some ?_); rfl)); (rfl); (rfl); (first | assumption | ((refine Is.lit ?_); decide +kernel) | (refine Is.ofInt _ _)); (first | assumption | ((refine Is.lit ?_); decide +kernel) | (refine Is.ofInt _ _)); (try simp only [Act.put, List.setIfInBounds_toArray, List.set_cons_succ, List.set_cons_zero, World.drewN_drewN])) | ((with_reducible refine wpList_fle (k := ?_) (bx := ?_) (by' := ?_) (X := ?_) (Y := ?_) ?_ ?_ ?_ ?_ ?_ ?_); rotate_left 5; (first | (with_reducible exact wanted_none) | ((with_reducible refine wanted_some ?_); rfl)); (rfl); (rfl); (first | assumption | ((refine Is.lit ?_); decide +kernel) | (refine Is.ofInt _ _)); (first | assumption | ((refine Is.lit ?_); decide +kernel) | (refine Is.ofInt _ _)); (try simp only [Act.put, List.setIfInBounds_toArray, List.set_cons_succ, List.set_cons_zero, World.drewN_drewN])) | ((with_reducible refine wpList_fgt (k := ?_) (bx := ?_) (by' := ?_) (X := ?_) (Y := ?_) ?_ ?_ ?_ ?_ ?_ ?_); rotate_left 5; (first | (with_reducible exact wanted_none) | ((with_reducible refine wanted_some ?_); rfl)); (rfl); (rfl); (first | assumption | ((refine Is.lit ?_); decide +kernel) | (refine Is.ofInt _ _)); (first | assumption | ((refine Is.lit ?_); decide +kernel) | (refine Is.ofInt _ _)); (try simp only [Act.put, List.setIfInBounds_toArray, List.set_cons_succ, List.set_cons_zero, World.drewN_drewN])) | ((with_reducible refine wpList_fge (k := ?_) (bx := ?_) (by' := ?_) (X := ?_) (Y := ?_) ?_ ?_ ?_ ?_ ?_ ?_); rotate_left 5; (first | (with_reducible exact wanted_none) | ((with_reducible refine wanted_some ?_); rfl)); (rfl); (rfl); (first | assumption | ((refine Is.lit ?_); decide +kernel) | (refine Is.ofInt _ _)); (first | assumption | ((refine Is.lit ?_); decide +kernel) | (refine Is.ofInt _ _)); (try simp only [Act.put, List.setIfInBounds_toArray, List.set_cons_succ, List.set_cons_zero, World.drewN_drewN])))))
  all_goals go_ret
  all_goals first | exact ⟨ret_i64 (by rw [is_nan hx (by assumption)]; rfl), rfl⟩ | exact ⟨ret_i64 (by rw [is_num hx (by assumption)]), rfl⟩ | exact ⟨ret_i64 (by rw [is_num' hx (by assumption)]), rfl⟩
theorem l01Same_any (x X y Y : Nat) (hx : Is .f32 x X) (hy : Is .f32 y Y) (w : World) : Calls Tryz.prog 43 #[.float .f32 x, .float .f32 y] w fun e w' => e = .returned (.bool (X == Y)) ∧ w = w' := by
  go_enter Tryz.func43, Tryz.ntmps43
  go_wp2_with fail
  refine (l01Bits_any _ _ hx _).mono ?_
  rintro e w' ⟨rfl, rfl⟩
  go_wp2_with fail
  refine (l01Bits_any _ _ hy _).mono ?_
  rintro e w' ⟨rfl, rfl⟩
  go_wp2_with fail
  go_ret
  exact ⟨ret_bool (by rw [Bool.eq_iff_iff]; simp; omega), rfl⟩
theorem sSameNumber_any (x X y Y : Nat) (hx : Is .f32 x X) (hy : Is .f32 y Y) (w : World) : Calls Tryz.prog 10 #[.float .f32 x, .float .f32 y] w fun e w' => e = .returned (.bool (X == Y)) ∧ w = w' := by
  go_enter Tryz.func10, Tryz.ntmps10
  go_wp2_with (go_at_call 43; refine (l01Same_any _ _ _ _ hx hy _).mono ?_; rintro e w' ⟨rfl, rfl⟩)
  go_ret
  exact ⟨rfl, rfl⟩
end Go.Proofs.YtianaalokclklaaGreatDoor
end

/-
  PLAIN LAWS: the digits of a number at base 16. (No program here.)
-/
section
set_option linter.unusedVariables false
set_option linter.unusedSimpArgs false
namespace Go.Fl
open Go Go.RowKit

def hexTab : List UInt8 := [48, 49, 50, 51, 52, 53, 54, 55, 56, 57, 97, 98, 99, 100, 101, 102]
def hexDg (d : Nat) : UInt8 := hexTab.getD d 0
def hexD (u : Nat) : List UInt8 := if h : u < 16 then [hexDg u] else hexD (u / 16) ++ [hexDg (u % 16)]
termination_by u
decreasing_by omega
theorem hexD_small {u : Nat} (h : u < 16) : hexD u = [hexDg u] := by rw [hexD, dif_pos h]
theorem hexD_step {u : Nat} (h : ¬ u < 16) : hexD u = hexD (u / 16) ++ [hexDg (u % 16)] := by rw [hexD, dif_neg h]
structure HInv (n : Nat) (L : List UInt8) (m : Nat) : Prop where
  eq : hexD n = hexD m ++ L
  lt : m < 16 ^ (8 - L.length)
  len : L.length ≤ 7
theorem HInv.start {n : Nat} (h : n < 4294967296) : HInv n [] n := by
  have e : (16 : Nat) ^ (8 - ([] : List UInt8).length) = 4294967296 := by decide
  exact ⟨by simp, by rw [e]; exact h, by simp⟩
theorem HInv.next {n m : Nat} {L : List UInt8} (h : HInv n L m) (hm : ¬ m < 16) : HInv n (hexDg (m % 16) :: L) (m / 16) := by
  have hl : L.length ≤ 6 := by
    rcases Nat.lt_or_ge 6 L.length with g | g
    · exfalso
      have e : L.length = 7 := by have := h.len; omega
      have := h.lt
      rw [e] at this
      omega
    · exact g
  refine ⟨?_, ?_, by simp; omega⟩
  · rw [h.eq, hexD_step hm]; simp
  · have e : 8 - L.length = (8 - (hexDg (m % 16) :: L).length) + 1 := by simp; omega
    have := h.lt
    rw [e, Nat.pow_succ] at this
    exact Nat.div_lt_of_lt_mul (by omega)
theorem HInv.done {n m : Nat} {L : List UInt8} (h : HInv n L m) (hm : m < 16) : hexD n = hexDg m :: L := by rw [h.eq, hexD_small hm]; rfl
/-- the buffer: the last cells hold the digits told so far -/
structure HSt (w wr : World) (T : TypeId) (p : Nat) (L : List UInt8) : Prop where
  bel : Bel w wr
  blk : ∃ cs, wr.heap[w.heap.size]? = some (.cells cs T (0, 0)) ∧ cs.size = 65 ∧ ∀ j, j < L.length → cs[p + j]? = some (.int .u8 ((L.getD j 0).toNat : Int))
theorem heap_setAt {w : World} {b a : Nat} {cs : Array Value} {u : Value} {T : TypeId} (h : w.heap[b]? = some (.cells cs T (0, 0))) : (w.setCell ⟨b, a, none⟩ u).heap[b]? = some (.cells (cs.setIfInBounds a u) T (0, 0)) := by
  show (w.heap.modify b _)[b]? = _
  rw [Array.getElem?_modify, if_pos rfl, h]
  rfl
theorem HSt.cell {w wr : World} {T : TypeId} {p : Nat} {L : List UInt8} (h : HSt w wr T p L) {j : Nat} (hj : j < 65) : ∃ v, wr.cell? ⟨w.heap.size, j, none⟩ = some v := by
  obtain ⟨cs, h1, h2, _⟩ := h.blk
  refine ⟨cs[j]'(by omega), ?_⟩
  unfold World.cell?
  simp [h1, h2, hj]
theorem HSt.thaw {w wr : World} {T : TypeId} {p : Nat} {L : List UInt8} (h : HSt w wr T p L) (j : Nat) : wr.frozen? ⟨w.heap.size, j, none⟩ = false := by
  obtain ⟨cs, h1, _⟩ := h.blk
  exact cells_free h1 j
theorem HSt.next {w wr : World} {T : TypeId} {p : Nat} {L : List UInt8} (h : HSt w wr T (p + 1) L) (hp : p < 65) (c : UInt8) : HSt w (wr.setCell ⟨w.heap.size, p, none⟩ (.int .u8 (c.toNat : Int))) T p (c :: L) := by
  obtain ⟨cs, h1, h2, h3⟩ := h.blk
  refine ⟨h.bel.setCell (Nat.le_refl _) _, _, heap_setAt h1, by simpa using h2, fun j hj => ?_⟩
  cases j with
  | zero => simp [h2, hp]
  | succ j =>
    have := h3 j (by simpa using hj)
    rw [show p + 1 + j = p + (j + 1) by omega] at this
    rw [Array.getElem?_setIfInBounds_ne (by omega), this]
    rfl
theorem HSt.bytes {w wr : World} {T : TypeId} {p : Nat} {L : List UInt8} (h : HSt w wr T p L) : ∀ j (hj : j < L.length), wr.cell? ((⟨w.heap.size, p, none⟩ : Addr).add j) = some (.int .u8 (L[j].toNat : Int)) := by
  intro j hj
  obtain ⟨cs, h1, h2, h3⟩ := h.blk
  have := h3 j hj
  rw [List.getD_eq_getElem?_getD, List.getElem?_eq_getElem hj] at this
  unfold Addr.add
  split
  · rename_i e; subst e; unfold World.cell?; simpa [h1] using this
  · unfold World.cell?; simpa [h1] using this
/-- the last 'k' digits -/
def hexK : Nat → Nat → List UInt8
  | 0, _ => []
  | k + 1, n => hexK k (n / 16) ++ [hexDg (n % 16)]
theorem hexK_len : ∀ k n, (hexK k n).length = k
  | 0, _ => rfl
  | k + 1, n => by simp [hexK, hexK_len k]
theorem hexK_zero : ∀ k, hexK k 0 = List.replicate k 48
  | 0 => rfl
  | k + 1 => by
    rw [hexK, hexK_zero k, List.replicate_succ']
    rfl
theorem hexD_len {n : Nat} : ∀ k, 1 ≤ k → n < 16 ^ k → (hexD n).length ≤ k := by
  intro k
  induction k generalizing n with
  | zero => intro h; omega
  | succ k ih =>
    intro _ hn
    by_cases h : n < 16
    · rw [hexD_small h]; simp
    · rw [hexD_step h, List.length_append, List.length_singleton]
      have hk : 1 ≤ k := by
        rcases Nat.eq_zero_or_pos k with e | e
        · subst e; simp at hn; omega
        · exact e
      have := ih (n := n / 16) hk (by rw [Nat.pow_succ] at hn; omega)
      omega
theorem hex_pad {n : Nat} : ∀ k, 1 ≤ k → n < 16 ^ k → List.replicate (k - (hexD n).length) 48 ++ hexD n = hexK k n := by
  intro k
  induction k generalizing n with
  | zero => intro h; omega
  | succ k ih =>
    intro _ hn
    by_cases h : n < 16
    · rw [hexD_small h, hexK, Nat.mod_eq_of_lt h, Nat.div_eq_of_lt h, hexK_zero]
      simp
    · have hk : 1 ≤ k := by
        rcases Nat.eq_zero_or_pos k with e | e
        · subst e; simp at hn; omega
        · exact e
      rw [hexD_step h, hexK, ← ih (n := n / 16) hk (by rw [Nat.pow_succ] at hn; omega), List.length_append, List.length_singleton, Nat.add_sub_add_right, List.append_assoc]
theorem repl48 : ∀ c, Lib.repeatL [48] c = List.replicate c 48
  | 0 => rfl
  | c + 1 => by rw [Lib.repeatL, repl48 c, List.replicate_succ]; rfl
abbrev hex8 (n : Nat) : List UInt8 := hexK 8 n
theorem hexK_next (N j s : Nat) : hexK (j + 1) (N / 2 ^ s) = hexK j (N / 2 ^ (s + 4)) ++ [hexDg (N / 2 ^ s % 16)] := by
  rw [hexK, Nat.div_div_eq_div_mul, show 2 ^ s * 16 = 2 ^ (s + 4) by rw [Nat.pow_add]]
end Go.Fl
end

/-
  CONTRACTS: a number's digits at base 16.
-/
section
set_option linter.unusedSimpArgs false
set_option linter.unusedVariables false
namespace Go.Proofs.YtianaalokclklaaGreatDoor
open Go.RowKit Go.Fl

/-- a value of the library's table -/
def Tz (w : World) : Prop := w.cell? ⟨6, 15, none⟩ = some (.int .u8 4)
theorem tz_bel {w w' : World} (h : Tz w) (hb : Bel w w') : Tz w' := (hb.cell (lt_of_cell h)).trans h
theorem pow2_any (w : World) : Calls Tryz.prog 122 #[.int .i64 16] w (ERet (.bool true) w) := by
  go_enter Tryz.func122, Tryz.ntmps122
  go_wp2_with fail
  go_ret
  exact ⟨rfl, rfl⟩
theorem tz64_any (w : World) (h : Tz w) : Calls Tryz.prog 134 #[.int .u64 16] w (ERet (.int .i64 4) w) := by
  have h1 := h
  unfold Tz at h1
  have e1 : IntKind.u64.wrap (-16) = 18446744073709551600 := by kernel_rfl
  have e2 : bits .and .u64 16 18446744073709551600 = 16 := by kernel_rfl
  have e3 : IntKind.u64.wrap (16 * 285870213051353865) = 4573923408821661840 := by kernel_rfl
  have e4 : IntKind.u64.wrap 4573923408821661840 = 4573923408821661840 := by kernel_rfl
  go_enter Tryz.func134, Tryz.ntmps134
  go_wp2_with fail
  go_ret
  exact ⟨rfl, rfl⟩
theorem tz_any (w : World) (h : Tz w) : Calls Tryz.prog 123 #[.int .u64 16] w (ERet (.int .i64 4) w) := by
  go_enter Tryz.func123, Tryz.ntmps123
  go_wp2_with fail
  refine (tz64_any w h).mono ?_
  rintro e w' ⟨rfl, rfl⟩
  go_wp2_with fail
  go_ret
  exact ⟨rfl, rfl⟩
def tab36 : List UInt8 := [48, 49, 50, 51, 52, 53, 54, 55, 56, 57, 97, 98, 99, 100, 101, 102, 103, 104, 105, 106, 107, 108, 109, 110, 111, 112, 113, 114, 115, 116, 117, 118, 119, 120, 121, 122]
theorem tab_same : ∀ d : Fin 16, tab36.getD d.val 0 = hexTab.getD d.val 0 := by decide
theorem dig36 {d : Nat} (hd : d < 16) (h : d < (⟨#[48, 49, 50, 51, 52, 53, 54, 55, 56, 57, 97, 98, 99, 100, 101, 102, 103, 104, 105, 106, 107, 108, 109, 110, 111, 112, 113, 114, 115, 116, 117, 118, 119, 120, 121, 122]⟩ : ByteArray).size) :
    ((⟨#[48, 49, 50, 51, 52, 53, 54, 55, 56, 57, 97, 98, 99, 100, 101, 102, 103, 104, 105, 106, 107, 108, 109, 110, 111, 112, 113, 114, 115, 116, 117, 118, 119, 120, 121, 122]⟩ : ByteArray)[d]'h).toNat = (hexDg d).toNat := by
  have h1 := byte_at (l := tab36) (k := d) (show d < 36 by omega)
  refine Eq.trans h1 ?_
  rw [tab_same ⟨d, hd⟩]
  rfl
theorem slice65 (w' : World) (b q : Nat) (hq : q ≤ 64) : (Instr.sliceAt 140 (.pointer (some ⟨b, 0, none⟩)) (some (.int .i64 (q : Int))) none none).run Tryz.prog w' = .ok (.slice (some ⟨b, q, none⟩) (65 - q) (65 - q)) w' := by
  have h1 : Tryz.prog.arrayLen 140 = 65 := by kernel_rfl
  have h2 : Tryz.prog.elem 140 = 5 := by kernel_rfl
  rw [run_sliceAt_array_l (P := Tryz.prog) w' 140 ⟨b, 0, none⟩ (by rw [h1, h2]; exact Tryz.underlying140) .i64 (q : Int) (by omega) (by rw [h1]; omega), h1, h2]
  have h3 : ¬ 65 = q := by omega
  simp [slicedAt, Result.andThen, Addr.add, go_sem, h3]
  exact fun e => e.symm
theorem zero65 : Tryz.zeroCells140.size = 65 := by kernel_rfl
set_option maxRecDepth 100000 in
set_option maxHeartbeats 2000000 in
theorem formatBits_any (w : World) (n : Nat) (hn : n < 4294967296) (h : Tz w) :
    Calls Tryz.prog 102 #[.slice none 0 0, .int .u64 (n : Int), .int .i64 16, .bool false, .bool false] w (fun e w' => e = .returned (.tuple #[.slice none 0 0, .string ⟨(hexD n).toArray⟩]) ∧ Bel w w') := by
  have hz := Lib.hid (tz_bel h ((Bel.refl w).alloc (.cells Tryz.zeroCells140 140)))
  have hS := Lib.hid (show HSt w (w.alloc (.cells Tryz.zeroCells140 140)) 140 65 [] from ⟨(Bel.refl w).alloc _, _, heap_alloc_new w _, zero65, fun j hj => absurd hj (by simp)⟩)
  have hI := Lib.hid (HInv.start hn)
  clear h
  go_enter Tryz.func102, Tryz.ntmps102
  go_wp2_with fail
  refine (pow2_any _).mono ?_
  rintro e w1 ⟨rfl, rfl⟩
  go_wp2_with fail
  refine (tz_any _ hz.out).mono ?_
  rintro e w1 ⟨rfl, rfl⟩
  go_wp2_with fail
  go_loopw [1, 13] (fun u iv wr => ∃ (m p : Nat) (L : List UInt8), u = .int .u64 (m : Int) ∧ iv = .int .i64 (p : Int) ∧ p + L.length = 65 ∧ m < 4294967296 ∧ Hid (HInv n L m) ∧ Hid (HSt w wr 140 p L)) (fun u _ _ => (intOf u).toNat)
  case atStart => exact ⟨n, 65, [], rfl, rfl, rfl, hn, hI, hS⟩
  case round =>
    obtain ⟨m, p, L, rfl, rfl, hp, hm, hI, hS⟩ := hrel
    have hlen := hI.out.len
    obtain ⟨q, rfl⟩ : ∃ q, p = q + 1 := ⟨p - 1, by omega⟩
    obtain ⟨v, hv⟩ := hS.out.cell (j := q) (by omega)
    have hth := hS.out.thaw q
    by_cases h16 : m < 16
    · have hD := Lib.hid (hI.out.done h16)
      have hN := hS.out.next (by omega) (hexDg m)
      have hcv := run_convert_bytes_back (P := Tryz.prog) _ 22 9 5 ⟨w.heap.size, q, none⟩ (65 - q) (hexDg m :: L) Tryz.underlying22 Tryz.underlying5 Tryz.underlying9 hN.bytes
      rw [show (hexDg m :: L).length = 65 - q by simp; omega, ← hD.out] at hcv
      have hbel := Lib.hid hN.bel
      replace hcv := Lib.hid hcv
      have hsl := fun w' => slice65 w' w.heap.size q (by omega)
      clear hN
      go_wp2_with fail
      rw [dig36 h16]
      simp only [hcv.out, Result.andThen]
      go_wp2_with fail
      refine bodyPost_ret (v := .tuple #[.slice none 0 0, .string ⟨(hexD n).toArray⟩]) (by simp [results, Tryz.results102, go_sem]) rfl ?_
      exact ⟨rfl, hbel.out⟩
    · have e1 : bits .and .u64 (m : Int) 15 = ((m % 16 : Nat) : Int) := by
        have := u64_and_nat m 15 (by omega) (by omega)
        rw [show (15 : Nat) = 2 ^ 4 - 1 from rfl, Nat.and_two_pow_sub_one_eq_mod] at this
        exact this
      have hd16 : m % 16 < 16 := by omega
      go_wp2_with fail
      refine ⟨⟨m / 16, q, hexDg (m % 16) :: L, by simp, rfl, by simp; omega, by omega, Lib.hid (hI.out.next h16), Lib.hid ?_⟩, ?_⟩
      · rw [dig36 hd16]
        exact hS.out.next (by omega) _
      · show (((m : Nat) : Int) / 16).toNat < ((m : Nat) : Int).toNat
        omega
theorem fmt16i (w : World) (n : Nat) (hn : n < 4294967296) (h : Tz w) : Calls Tryz.prog 86 #[.int .i64 (n : Int), .int .i64 16] w (StRet (hexD n) w) := by
  go_enter Tryz.func86, Tryz.ntmps86
  go_wp2_with fail
  refine (formatBits_any w n hn h).mono ?_
  rintro e w' ⟨rfl, hB⟩
  replace hB := Lib.hid hB
  go_wp2_with fail
  go_ret
  exact ⟨rfl, hB.out⟩
theorem fmt16 (w : World) (n : Nat) (hn : n < 4294967296) (h : Tz w) : Calls Tryz.prog 73 #[.int .i64 (n : Int), .int .i64 16] w (StRet (hexD n) w) := by
  go_enter Tryz.func73, Tryz.ntmps73
  go_wp2_with fail
  refine (fmt16i w n hn h).mono ?_
  rintro e w' ⟨rfl, hB⟩
  replace hB := Lib.hid hB
  go_wp2_with fail
  go_ret
  exact ⟨rfl, hB.out⟩
end Go.Proofs.YtianaalokclklaaGreatDoor
end
