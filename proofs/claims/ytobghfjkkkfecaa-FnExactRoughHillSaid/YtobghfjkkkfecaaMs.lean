/-
  A ROW OF THE CALL's OWN THAT IS WRITTEN NUMBER BY NUMBER; A ROW THAT IS COPIED. (No program here.)
-/
import Derived.Test.YtobghfjkkkfecaaMd
import Derived.Test.YtobghfjkkkfecaaRs
import Derived.ArgAppend
set_option linter.unusedVariables false
set_option linter.unusedSimpArgs false
namespace Go.Fl
open Go Ieee Go.RowKit

theorem orow_of_own {w : World} {base : Nat} {E : TypeId} {v : Value} {n : Nat} {ws : List Nat} (h : w.ownsRow base E 1 v n (ws.map (Value.float .f32))) (hn : 0 < n) (hwf : ∀ i, i < n → ws.getD i 0 < 4294967296) :
    ∃ g cap, v = .slice (some ⟨g, 0, none⟩) n cap ∧ ORow base w.heap.size w (some ⟨g, 0, none⟩) n ws := by
  obtain ⟨h0, h1⟩ := h
  have hlen : ws.length = n := by simpa using h0
  rcases h1 with ⟨_, e⟩ | ⟨g, cap, cur, rfl, h2, h3, h4, h5, h6, h7⟩
  · omega
  · have hlt : g < w.heap.size := (Array.getElem?_eq_some_iff.1 h3).1
    have hown : w.ownsRow base E 1 (.slice (some ⟨g, 0, none⟩) n cap) n (ws.map (Value.float .f32)) := ⟨h0, .inr ⟨g, cap, cur, rfl, h2, h3, h4, h5, h6, h7⟩⟩
    refine ⟨g, cap, rfl, ⟨hlen, fun _ => ⟨g, 0, rfl, hlt, fun i hi => ?_⟩, hwf⟩, fun a ha => by cases ha; exact ⟨h2, hlt, hlt, fun j => cells_free h3 j⟩⟩
    rw [Nat.zero_add, World.ownsRow.cellAt hown i (by omega)]
    simp [List.getD, hlen, hi]
/-- an empty slice in a block of its own -/
def New0 (E : TypeId) (W : World) : Rk.KSet := fun w u => ∃ b, u = .slice (some ⟨b, 0, none⟩) 0 0 ∧ W.heap.size ≤ b ∧ w.heap[b]? = some (.cells #[] E (0, 0))
theorem mon_new0 (E : TypeId) (W : World) : Rk.Mon Bel (New0 E W) := fun w w' u hb ⟨b, h1, h2, h3⟩ => ⟨b, h1, h2, by rw [hb.block b (Array.getElem?_eq_some_iff.1 h3).1]; exact h3⟩
section
open Rk
variable {P : Program} {ops : Array Oper} {W : World} {Q : Known → Prop} {rest : List Oper} {A : Known} {dst : Option Tmp} {ty : TypeId} {pos : String} {after : Array Edge} {guard : Option (Nat × Bool)}
theorem wpR_new0 {t E : TypeId} (hy : Rk.Yes ops A ⟨dst, .buildSlice t 0 #[], ty, pos, after, guard⟩)
    (hrun : ∀ (ρ : Operand → Value) (w : World), (execOp ρ ⟨dst, .buildSlice t 0 #[], ty, pos, after, guard⟩).run P w = .ok (.value (.slice (some ⟨w.heap.size, 0, none⟩) 0 0)) (w.alloc (.cells #[] E (0, 0))))
    (h : wpR P ops Bel W Q rest (upd A dst (New0 E W))) : wpR P ops Bel W Q (⟨dst, .buildSlice t 0 #[], ty, pos, after, guard⟩ :: rest) A := by
  refine ⟨_, mon_new0 E W, gives_run hy fun w hw a ha => ?_, h⟩
  exact ⟨_, _, hrun a.eval w, (Bel.refl w).alloc _, w.heap.size, rfl, hw.size, heap_alloc_new w _⟩
end
theorem own_new0 {w : World} {b base : Nat} {E : TypeId} (h : w.heap[b]? = some (.cells #[] E (0, 0))) (hb : base ≤ b) : w.ownsRow base E 1 (.slice (some ⟨b, 0, none⟩) 0 0) 0 [] :=
  ⟨by simp, .inr ⟨b, 0, #[], rfl, hb, h, Nat.le_refl _, by unfold maxLen; omega, rfl, by simp⟩⟩
/-- the numbers of a row, as they are appended -/
theorem frow_news {w : World} {b off n : Nat} {xs : List Nat} (h : FRow w (some ⟨b, off, none⟩) n xs) : ∀ j u, (xs.map (Value.float .f32))[j]? = some u → w.cell? ((⟨b, off, none⟩ : Addr).add j) = some u := by
  intro j u hu
  have hl := h.len
  rw [List.getElem?_map] at hu
  cases hx : xs[j]? with
  | none => rw [hx] at hu; cases hu
  | some x =>
    rw [hx] at hu
    cases hu
    have hj : j < n := by rw [← hl]; exact (List.getElem?_eq_some_iff.1 hx).1
    obtain ⟨b', off', e1, _, e3⟩ := h.at0 (by omega)
    cases e1
    have hadd : (⟨b, off, none⟩ : Addr).add j = ⟨b, off + j, none⟩ := by unfold Addr.add; split <;> simp_all
    rw [hadd, e3 j hj, List.getD_eq_getElem?_getD, hx]; rfl

/-- a row that has been made in a block of its own -/
def NewRow (E : TypeId) (W : World) (n : Nat) (xs : List Nat) : Rk.KSet := fun w u => w.ownsRow W.heap.size E 1 u n (xs.map (Value.float .f32))
theorem mon_newRow (E : TypeId) (W : World) (n : Nat) (xs : List Nat) : Rk.Mon Bel (NewRow E W n xs) := fun w w' u hb h => own_belx h (.of (bs := none) hb) (by simp)
section
open Rk
variable {P : Program} {ops : Array Oper} {W : World} {Q : Known → Prop} {rest : List Oper} {A : Known} {dst : Option Tmp} {ty : TypeId} {pos : String} {after : Array Edge} {guard : Option (Nat × Bool)} {x y : Operand} {t : TypeId}
theorem wpR_appGrow {E : TypeId} {i : TypeInfo} {z : Value} {W0 : World} {bo off n c : Nat} {xs : List Nat} (ht : P.underlying t = some (.slice E)) (hi : P.info? E = some i) (hz : i.zero = some z) (hsize : i.size = 1) (hby : i.bytes = 4) (hzs : z.cells.size = 1)
    (hA : FRow W (some ⟨bo, off, none⟩) n xs) (hn : 0 < n) (hm : n ≤ 1048576)
    (hy : Rk.Yes ops A ⟨dst, .call { callee := .builtin .append, args := #[x, y], argTypes := #[t, t] }, ty, pos, after, guard⟩)
    (hS : slotS A x = New0 E W0) (hT : slotS A y = Is1 (.slice (some ⟨bo, off, none⟩) n c)) (h : wpR P ops Bel W Q rest (upd A dst (NewRow E W n xs))) :
    wpR P ops Bel W Q (⟨dst, .call { callee := .builtin .append, args := #[x, y], argTypes := #[t, t] }, ty, pos, after, guard⟩ :: rest) A := by
  refine ⟨_, mon_newRow E W n xs, gives_run hy fun w hw a ha => ?_, h⟩
  have e1 := fits_eval ha x (looks_op (by simp [Op.operands, Call.operands]))
  have e2 := fits_eval ha y (looks_op (by simp [Op.operands, Call.operands]))
  rw [hS] at e1
  rw [hT] at e2
  obtain ⟨b, hs, _, hb⟩ := e1
  have hx : a.eval y = .slice (some ⟨bo, off, none⟩) n c := e2
  have hlen := hA.len
  obtain ⟨v', w', hrun, r1, r2⟩ := run_append_arg_grows (P := P) w t ty E i z 1 4 ht hi hz hsize hby hzs (by omega) ⟨b, 0, none⟩ 0 0 [] (by simp) (by simp) ⟨bo, off, none⟩ n c (xs.map (Value.float .f32)) (by simp [hlen]) (frow_news (hA.bel hw)) (by omega) (by unfold maxLen; omega) (by omega)
  refine ⟨v', w', ?_, ⟨r2.os, r2.tape, r2.output, r2.size, fun k hk => r2.block k hk (by simp)⟩, ?_⟩
  · simp [execOp, resolve, invoke, builtin, hs, hx, hrun, Result.andThen]
  · have hwl := hw.size
    have r1' : w'.ownsRow w.heap.size E 1 v' n (xs.map (Value.float .f32)) := by simpa using r1
    refine ⟨r1'.1, r1'.2.imp id ?_⟩
    rintro ⟨g, cap, cur, h1, h2, h3⟩
    exact ⟨g, cap, cur, h1, Nat.le_trans hwl h2, h3⟩
end
theorem BelX.setCell {bs : Option Nat} {w w' : World} (h : BelX bs w w') {p : Addr} (hp : some p.block = bs ∨ w.heap.size ≤ p.block) (v : Value) : BelX bs w (w'.setCell p v) := by
  refine ⟨h.os, h.tape, h.output, by simpa [World.setCell] using h.size, fun j hj hne => ?_⟩
  rw [heap_setOther ?_, h.block j hj hne]
  intro e
  rcases hp with hp | hp
  · exact hne (by rw [← hp, e])
  · omega
theorem FRow.belx {bs : Option Nat} {w w' : World} {ao : Option Addr} {n : Nat} {xs : List Nat} (h : FRow w ao n xs) (hX : BelX bs w w') (hne : ∀ a, ao = some a → some a.block ≠ bs) : FRow w' ao n xs := by
  refine ⟨h.len, fun hn => ?_, h.wf⟩
  obtain ⟨b, off, rfl, h2, h3⟩ := h.at0 hn
  refine ⟨b, off, rfl, Nat.lt_of_lt_of_le h2 hX.size, fun i hi => ?_⟩
  rw [hX.cell (p := ⟨b, off + i, none⟩) h2 (hne ⟨b, off, none⟩ rfl)]; exact h3 i hi
theorem ORow.setAt {lo hi b off : Nat} {w : World} {n i r : Nat} {ys : List Nat} (h : ORow lo hi w (some ⟨b, off, none⟩) n ys) (hi' : i < n) (hr : r < 4294967296) : ORow lo hi (w.setCell ⟨b, off + i, none⟩ (.float .f32 r)) (some ⟨b, off, none⟩) n (ys.set i r) := by
  obtain ⟨b', off', e1, h2, h3⟩ := h.row.at0 (by omega)
  cases e1
  have hl := h.row.len
  have hg : ∀ j, j < n → (ys.set i r).getD j 0 = if i = j then r else ys.getD j 0 := by
    intro j hj
    rw [List.getD_eq_getElem?_getD, List.getElem?_set]
    by_cases e : i = j
    · subst e; simp [hl, hj]
    · simp [e]
  obtain ⟨g1, g2, g3, g4⟩ := h.own _ rfl
  refine ⟨⟨by simp [hl], fun _ => ⟨b, off, rfl, by simpa [World.setCell] using h2, fun j hj => ?_⟩, fun j hj => ?_⟩, fun a ha => by cases ha; exact ⟨g1, g2, by simpa [World.setCell] using g3, fun j => by rw [World.frozen?_setCell]; exact g4 j⟩⟩
  · rw [hg j hj]
    by_cases e : i = j
    · subst e; rw [if_pos rfl, World.cell?_setCell_same _ _ _ (h3 i hj)]
    · rw [if_neg e, World.cell?_setCell_other _ _ _ _ (by intro he; injection he with h1 h2 h3; omega)]; exact h3 j hj
  · rw [hg j hj]
    split
    · exact hr
    · exact h.row.wf j hj

/-- the first 'i' of 'n' numbers of a row have been written -/
structure SSt (w0 : World) (lo hi b off : Nat) (F : Nat → Nat) (xs : List Nat) (n i : Nat) (wr : World) (ys : List Nat) : Prop where
  bel : BelX (some b) w0 wr
  row : ORow lo hi wr (some ⟨b, off, none⟩) n ys
  done : ∀ j, j < i → Is .f32 (ys.getD j 0) (F j)
  left : ∀ j, i ≤ j → j < n → ys.getD j 0 = xs.getD j 0
variable {w0 wr : World} {lo hi b off : Nat} {F : Nat → Nat} {xs ys : List Nat} {n i : Nat}
theorem SSt.start (h : ORow lo hi w0 (some ⟨b, off, none⟩) n xs) : SSt w0 lo hi b off F xs n 0 w0 xs := ⟨BelX.refl _ _, h, fun j hj => absurd hj (by omega), fun _ _ _ => rfl⟩
theorem SSt.next (h : SSt w0 lo hi b off F xs n i wr ys) (hi' : i < n) {wK : World} (hK : Bel wr wK) {r : Nat} (hr : Is .f32 r (F i)) : SSt w0 lo hi b off F xs n (i + 1) (wK.setCell ⟨b, off + i, none⟩ (.float .f32 r)) (ys.set i r) := by
  have hl := h.row.row.len
  refine ⟨(h.bel.trans (.of hK)).setCell (.inl rfl) _, (h.row.bel hK).setAt hi' (by have := hr.1; rw [w32] at this; exact this), fun j hj => ?_, fun j h1 h2 => ?_⟩
  · rw [List.getD_eq_getElem?_getD, List.getElem?_set]
    by_cases e : i = j
    · subst e; simp [hl, hi']; exact hr
    · simp only [e, if_false]; exact h.done j (by omega)
  · rw [List.getD_eq_getElem?_getD, List.getElem?_set, if_neg (by omega)]
    exact h.left j (by omega) h2
theorem belx_bel {w w0 w' : World} {b : Nat} (h : Bel w w0) (hX : BelX (some b) w0 w') (hb : w.heap.size ≤ b) : Bel w w' :=
  Below.trans h (hX.below h.size (fun j hj => by cases hj; exact hb))
end Go.Fl
