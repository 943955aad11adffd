/-
  A ROW THAT IS MADE NUMBER BY NUMBER IN A FIELD OF A STRUCT OF THE CALL's OWN: what holds after 'k' of them. (No program here.)
-/
import Derived.Test.YtianaalokclklaaDoorHl
import Derived.WalkKit
import Derived.OwnWalk
import Derived.Deep.AppendLies
set_option linter.unusedVariables false
set_option linter.unusedSimpArgs false
namespace Go.Fl
open Go Ieee Go.RowKit

/-- of what was there before nothing has turned but for one block -/
structure BelX (bs : Option Nat) (w w' : World) : Prop where
  os : w'.os = w.os
  tape : w'.tape = w.tape
  output : w'.output = w.output
  size : w.heap.size ≤ w'.heap.size
  block : ∀ j, j < w.heap.size → some j ≠ bs → w'.heap[j]? = w.heap[j]?
theorem BelX.of {bs : Option Nat} {w w' : World} (h : Bel w w') : BelX bs w w' := ⟨h.os, h.tape, h.output, h.size, fun j hj _ => h.block j hj⟩
theorem BelX.bel {w w' : World} (h : BelX none w w') : Bel w w' := ⟨h.os, h.tape, h.output, h.size, fun j hj => h.block j hj (by simp)⟩
theorem BelX.refl (bs : Option Nat) (w : World) : BelX bs w w := .of (Bel.refl w)
theorem BelX.trans {bs : Option Nat} {a b c : World} (h : BelX bs a b) (k : BelX bs b c) : BelX bs a c :=
  ⟨k.os.trans h.os, k.tape.trans h.tape, k.output.trans h.output, Nat.le_trans h.size k.size, fun j hj hne => (k.block j (Nat.lt_of_lt_of_le hj h.size) hne).trans (h.block j hj hne)⟩
theorem BelX.cell {bs : Option Nat} {w w' : World} (h : BelX bs w w') {p : Addr} (hp : p.block < w.heap.size) (hne : some p.block ≠ bs) : w'.cell? p = w.cell? p := World.cell?_of_block (w := w) (h.block _ hp hne)
theorem BelX.frozen {bs : Option Nat} {w w' : World} (h : BelX bs w w') {p : Addr} (hp : p.block < w.heap.size) (hne : some p.block ≠ bs) : w'.frozen? p = w.frozen? p := World.frozen?_of_block (w := w) (h.block _ hp hne)
theorem BelX.below {bs : Option Nat} {w w' : World} (h : BelX bs w w') {B : Nat} (hB : B ≤ w.heap.size) (hb : ∀ j, bs = some j → B ≤ j) : Below B w w' :=
  ⟨h.os, h.tape, h.output, h.size, fun j hj => h.block j (by omega) (fun e => by have := hb j e.symm; omega)⟩

theorem own_belx {bs : Option Nat} {wr w1 : World} {base : Nat} {e : TypeId} {size : Nat} {v : Value} {n : Nat} {xs : List Value} (h : wr.ownsRow base e size v n xs) (hX : BelX bs wr w1) (hbs : ∀ j, bs = some j → j < base) : w1.ownsRow base e size v n xs := by
  refine ⟨h.1, h.2.imp id ?_⟩
  rintro ⟨g, cap, cur, h1, h2, h3, h4⟩
  refine ⟨g, cap, cur, h1, h2, ?_, h4⟩
  rw [hX.block g (Array.getElem?_eq_some_iff.1 h3).1 (fun e => by have := hbs g e.symm; omega)]
  exact h3

/-- after 'k' numbers: the struct lies in block 'hb', its row is the call's own -/
structure MSt (w0 : World) (bs : Option Nat) (Inv : Nat → World → Prop) (F : Nat → Nat) (W H : Int) (T E : TypeId) (hb : Nat) (k : Nat) (wr : World) (v : Value) (ws : List Nat) : Prop where
  box : wr.heap[hb]? = some (.cells #[.int .i64 W, .int .i64 H, v] T (0, 0))
  own : wr.ownsRow w0.heap.size E 1 v k (ws.map (Value.float .f32))
  far : v.ownBlock ≠ some hb
  len : ws.length = k
  is : ∀ i, i < k → Is .f32 (ws.getD i 0) (F i)
  inv : Inv k wr
  bel : BelX bs w0 wr
  size : hb + 1 ≤ wr.heap.size

variable {w0 : World} {bs : Option Nat} {Inv : Nat → World → Prop} {F : Nat → Nat} {W H : Int} {T E : TypeId} {hb k : Nat} {wr : World} {v : Value} {ws : List Nat}

theorem MSt.c2 (h : MSt w0 bs Inv F W H T E hb k wr v ws) : wr.cell? ⟨hb, 2, none⟩ = some v := by unfold World.cell?; simp [h.box]
theorem MSt.c0 (h : MSt w0 bs Inv F W H T E hb k wr v ws) : wr.cell? ⟨hb, 0, none⟩ = some (.int .i64 W) := by unfold World.cell?; simp [h.box]
theorem MSt.c1 (h : MSt w0 bs Inv F W H T E hb k wr v ws) : wr.cell? ⟨hb, 1, none⟩ = some (.int .i64 H) := by unfold World.cell?; simp [h.box]
theorem cells_free {w : World} {b : Nat} {cs : Array Value} {T : TypeId} (h : w.heap[b]? = some (.cells cs T (0, 0))) (j : Nat) : w.frozen? ⟨b, j, none⟩ = false := by
  unfold World.frozen?; simp [h]
theorem heap_set3 {w : World} {b : Nat} {x y z u : Value} {T : TypeId} (h : w.heap[b]? = some (.cells #[x, y, z] T (0, 0))) : (w.setCell ⟨b, 2, none⟩ u).heap[b]? = some (.cells #[x, y, u] T (0, 0)) := by
  show (w.heap.modify b _)[b]? = _
  rw [Array.getElem?_modify, if_pos rfl, h]
  rfl
theorem heap_setOther {w : World} {p : Addr} {v : Value} {j : Nat} (h : p.block ≠ j) : (w.setCell p v).heap[j]? = w.heap[j]? := by
  show (w.heap.modify p.block _)[j]? = _
  rw [Array.getElem?_modify, if_neg h]
theorem ownsRow_setOther {w : World} {base : Nat} {e : TypeId} {size : Nat} {v : Value} {n : Nat} {xs : List Value} (h : w.ownsRow base e size v n xs) {p : Addr} (hp : v.ownBlock ≠ some p.block) (u : Value) : (w.setCell p u).ownsRow base e size v n xs := by
  refine ⟨h.1, h.2.imp id ?_⟩
  rintro ⟨g, cap, cur, rfl, h2, h3, h4⟩
  refine ⟨g, cap, cur, rfl, h2, ?_, h4⟩
  rw [heap_setOther (fun e => hp (by rw [e]; rfl))]; exact h3
/-- a block of another type is no row of these -/
theorem own_far {w : World} {base : Nat} {e T : TypeId} {size : Nat} {v : Value} {n hb : Nat} {xs : List Value} {cs : Array Value} (h : w.ownsRow base e size v n xs) (hT : T ≠ e) (hb' : w.heap[hb]? = some (.cells cs T (0, 0))) : v.ownBlock ≠ some hb := by
  intro he
  rcases h.2 with ⟨rfl, _⟩ | ⟨g, cap, cur, rfl, h2, h3, _⟩
  · cases he
  · cases he
    rw [h3] at hb'
    injection hb' with h1
    injection h1 with _ h5
    exact hT h5.symm

theorem MSt.keep (h : MSt w0 bs Inv F W H T E hb k wr v ws) (hh : w0.heap.size ≤ hb) (hbs : ∀ j, bs = some j → j < w0.heap.size) (w1 : World) (hX : BelX bs wr w1) :
    w1.heap[hb]? = some (.cells #[.int .i64 W, .int .i64 H, v] T (0, 0)) ∧ w1.ownsRow w0.heap.size E 1 v k (ws.map (Value.float .f32)) ∧ hb + 1 ≤ w1.heap.size := by
  have hs := h.size
  refine ⟨?_, own_belx h.own hX (fun j hj => by have := hbs j hj; omega), Nat.le_trans hs hX.size⟩
  rw [hX.block hb (by omega) (fun e => by have := hbs hb e.symm; omega)]
  exact h.box
theorem grown_keep {w1 w2 : World} {o : Obj} {hb : Nat} {row : Option Nat} (hc : w1.heap[hb]? = some o) (hs : hb + 1 ≤ w1.heap.size) (hg : w1.grownBy w2 row) (hrow : row ≠ some hb) : w2.heap[hb]? = some o := by
  rw [hg.block hb (by omega) (fun e => hrow e.symm)]; exact hc
theorem box_c2 {w : World} {hb : Nat} {x y v : Value} {T : TypeId} (h : w.heap[hb]? = some (.cells #[x, y, v] T (0, 0))) : w.cell? ⟨hb, 2, none⟩ = some v := by unfold World.cell?; simp [h]
theorem own_succ {w : World} {base : Nat} {e : TypeId} {size : Nat} {v : Value} {n : Nat} {xs : List Value} (h : w.ownsRow base e size v (n + 1) xs) : ∃ g cap, v = .slice (some ⟨g, 0, none⟩) (n + 1) cap := by
  rcases h.2 with ⟨_, e⟩ | ⟨g, cap, cur, h1, _⟩
  · omega
  · exact ⟨g, cap, h1⟩
theorem own_row {w : World} {base : Nat} {e : TypeId} {size : Nat} {v : Value} {n : Nat} {xs : List Value} (h : w.ownsRow base e size v n xs) : ∀ j, v.ownBlock = some j → base ≤ j := fun j hj => (World.ownsRow.lt h j hj).1

/-- one number more: 'w1' behind the call that gave it, 'w2' behind the append -/
theorem MSt.next (h : MSt w0 bs Inv F W H T E hb k wr v ws) (hh : w0.heap.size ≤ hb) (hTE : T ≠ E) (hstab : ∀ k wr w', Inv k wr → Below w0.heap.size wr w' → Inv k w') (hbs : ∀ j, bs = some j → j < w0.heap.size)
    {w1 w2 : World} {r : Nat} {v2 : Value} (hX : BelX bs wr w1) (hI : Inv (k + 1) w1) (hr : Is .f32 r (F k))
    (hown : w2.ownsRow w0.heap.size E 1 v2 (k + 1) (ws.map (Value.float .f32) ++ [.float .f32 r])) (hg : w1.grownBy w2 v.ownBlock) :
    MSt w0 bs Inv F W H T E hb (k + 1) (w2.setCell ⟨hb, 2, none⟩ v2) v2 (ws ++ [r]) := by
  have hs1 := hX.size
  have hsz := h.size
  have hrow := own_row h.own
  have hsz0 := h.bel.size
  have g0 : Below w0.heap.size w1 w2 := ((Below.refl w0.heap.size w1).grown hg (by omega) hrow)
  have ebox : w2.heap[hb]? = some (.cells #[.int .i64 W, .int .i64 H, v] T (0, 0)) := by
    rw [hg.block hb (by omega) (fun e => h.far e.symm), hX.block hb (by omega) (fun e => by have := hbs hb e.symm; omega)]; exact h.box
  have hfar := own_far hown hTE ebox
  refine ⟨heap_set3 ebox, ?_, hfar, by simp [h.len], fun i hi => ?_, ?_, ?_, ?_⟩
  · rw [List.map_append]
    exact ownsRow_setOther hown hfar _
  · by_cases g : i < k
    · have e : (ws ++ [r]).getD i 0 = ws.getD i 0 := by simp [List.getD, List.getElem?_append, h.len, g]
      rw [e]; exact h.is i g
    · obtain rfl : i = k := by omega
      have e : (ws ++ [r]).getD i 0 = r := by simp [List.getD, List.getElem?_append, h.len]
      rw [e]; exact hr
  · exact hstab _ _ _ hI (g0.setCell (by simp; omega) _)
  · refine ⟨g0.os.trans (hX.os.trans h.bel.os), g0.tape.trans (hX.tape.trans h.bel.tape), g0.output.trans (hX.output.trans h.bel.output), ?_, fun j hj hne => ?_⟩
    · have := g0.size; simp [World.setCell]; omega
    · rw [heap_setOther (by simp; omega), g0.block j (by omega), hX.block j (by omega) hne]
      exact h.bel.block j hj hne
  · have := hg.size; simp [World.setCell]; omega

theorem mst_orow (h : MSt w0 bs Inv F W H T E hb k wr v ws) (hk : 0 < k) : ∃ g cap, v = .slice (some ⟨g, 0, none⟩) k cap ∧ ORow w0.heap.size wr.heap.size wr (some ⟨g, 0, none⟩) k ws := by
  obtain ⟨h0, h1⟩ := h.own
  rcases h1 with ⟨_, e⟩ | ⟨g, cap, cur, rfl, h2, h3, h4, h5, h6, h7⟩
  · omega
  · have hlt : g < wr.heap.size := (Array.getElem?_eq_some_iff.1 h3).1
    have hown : wr.ownsRow w0.heap.size E 1 (.slice (some ⟨g, 0, none⟩) k cap) k (ws.map (Value.float .f32)) := h.own
    refine ⟨g, cap, rfl, ⟨h.len, fun _ => ⟨g, 0, rfl, hlt, fun i hi => ?_⟩, fun i hi => ?_⟩, fun a ha => by cases ha; exact ⟨h2, hlt, hlt, fun j => cells_free h3 j⟩⟩
    · rw [Nat.zero_add, World.ownsRow.cellAt hown i (by omega)]
      have hl := h.len
      simp [List.getD, hl, hi]
    · have := (h.is i hi).1; rw [w32] at this; exact this

/-- append of one number to a row of the call's own, as a step of a region -/
theorem step_app1 {P : Program} {ops : Array Oper} {o : Oper} {a : Act} {w : World} {K : Act → World → Prop} {Q : Exit → Act → World → Prop} {X : Prop} (s x : Operand) (t : TypeId)
    (base : Nat) (e : TypeId) (i : TypeInfo) (z : Value) (ht : P.underlying t = some (.slice e)) (hi : P.info? e = some i) (hz : i.zero = some z) (hsize : i.size = 1) (hby : i.bytes = 4) (hzs : z.cells.size = 1)
    (v : Value) (n : Nat) (ws : List Nat) (w1 : World) (r : Nat) (hown : w1.ownsRow base e 1 v n (ws.map (Value.float .f32))) (hn : n ≤ 256) (hbase : base ≤ w1.heap.size)
    (hgd : o.guard = none) (ho : o.op = .call { callee := .builtin .append, args := #[s, x], argTypes := #[t, t] })
    (hw : w = w1.alloc (.cells #[.float .f32 r] e (0, 0))) (hs : a.eval s = v) (hx : a.eval x = .slice (some ⟨w1.heap.size, 0, none⟩) 1 1)
    (h : ∀ g cap w', w'.ownsRow base e 1 (.slice (some ⟨g, 0, none⟩) (n + 1) cap) (n + 1) (ws.map (Value.float .f32) ++ [.float .f32 r]) → (w1.alloc (.cells #[.float .f32 r] e (0, 0))).grownBy w' v.ownBlock → K (a.put o.dst (.slice (some ⟨g, 0, none⟩) (n + 1) cap)) w') :
    if Region.wanted o (yielded ops a.tmps) = true then Oper.wp P o a w K Q else X := by
  subst hw
  refine step_append_lies _ hgd s x t ho base e i z 1 4 ht hi hz hsize hby hzs (by omega) v n _ hs (hown.alloc _) ⟨w1.heap.size, 0, none⟩ 1 1 [.float .f32 r] hx rfl
    (World.news_of_block (cs := #[.float .f32 r]) (t := e) (fr := (0, 0)) (heap_alloc_new w1 _)) (by simp [Value.oneCell']) (by omega) (by unfold maxLen; omega) (by omega) (by simp; omega) _ rfl ?_
  intro g cap w' h1 h2 _ _
  exact h g cap w' h1 h2
end Go.Fl
