/-
  CONTRACTS: a hill that is made by a function value that writes one block that was there.
-/
import Derived.Test.YtobghfjkkkfecaaH31
import Derived.Test.YtobghfjkkkfecaaR2
set_option linter.unusedSimpArgs false
set_option linter.unusedVariables false
namespace Go.Proofs.Ytobghfjkkkfecaa
open Go.RowKit Go.Fl

theorem BelX.setCell {bs : Option Nat} {w w' : World} (h : BelX bs w w') {p : Addr} (hp : w.heap.size ≤ p.block) (v : Value) : BelX bs w (w'.setCell p v) :=
  ⟨h.os, h.tape, h.output, by simpa [World.setCell] using h.size, fun j hj hne => by rw [heap_setOther (by omega)]; exact h.block j hj hne⟩
/-- what a function value gives that is asked for the number of a cell, and writes block 'sb' -/
abbrev HowGives2 (g : FuncId) (cap : Array Value) (a : Nat) (w0 : World) (F : Nat → Nat) (S : Nat → Obj) (sb : Nat) (N : Nat) : Prop :=
  ∀ (x y : Nat) (w : World), x < a → y * a + x < N → BelX (some sb) w0 w → w.heap[sb]? = some (S (y * a + x)) → Calls Try.prog g (#[.int .i64 (x : Int), .int .i64 (y : Int)] ++ cap) w fun e w'' => ∃ u, e = .returned u ∧ Rk.LeX sb (S (y * a + x + 1)) w w'' ∧ Rk.IsFN .f32 (F (y * a + x)) sb (S (y * a + x + 1)) w'' u
def MRel2 (sb : Nat) (S : Nat → Obj) (w0 : World) (F : Nat → Nat) (W H : Int) (hb k : Nat) (wr : World) : Prop := ∃ v ws, MSt w0 (some sb) (fun k wr => wr.heap[sb]? = some (S k)) F W H 27 32 hb k wr v ws
theorem alloc_block (w : World) (o : Obj) {b : Nat} (h : b < w.heap.size) : (w.alloc o).heap[b]? = w.heap[b]? := ((Bel.refl w).alloc o).block b h
theorem mrel_start2 (sb : Nat) (S : Nat → Obj) (w0 : World) (F : Nat → Nat) (W H : Int) {hb : Nat} (hh : hb = w0.heap.size) (hsb : sb < w0.heap.size) (hS : w0.heap[sb]? = some (S 0)) : MRel2 sb S w0 F W H hb 0 (w0.alloc (.cells #[.int .i64 W, .int .i64 H, .slice none 0 0] 27)) := by
  subst hh
  refine ⟨.slice none 0 0, [], heap_alloc_new w0 _, World.ownsRow_nil _ _ _ _, by simp [Value.ownBlock], rfl, fun i hi => absurd hi (by omega), ?_, .of ((Bel.refl w0).alloc _), by simp⟩
  show (w0.alloc _).heap[sb]? = _
  rw [alloc_block _ _ hsb]; exact hS
def HRetX (sb : Nat) (N : Obj) (R : HillR) (w : World) (e : Ending) (w' : World) : Prop := ∃ ao c xs, e = .returned (.tuple #[hillV R.W R.H ao R.n c, .bool R.ok]) ∧ ORow w.heap.size w'.heap.size w' ao R.n xs ∧ (∀ i, i < R.n → cn .f32 (xs.getD i 0) = R.F i) ∧ BelX (some sb) w w' ∧ w'.heap[sb]? = some N

set_option maxRecDepth 100000 in
set_option maxHeartbeats 4000000 in
theorem made_any2 (w0 : World) (sb : Nat) (S : Nat → Obj) (hsb : sb < w0.heap.size) (hS0 : w0.heap[sb]? = some (S 0)) (a b : Nat) (ha1 : 1 ≤ a) (ha2 : a ≤ 16) (hb1 : 1 ≤ b) (hb2 : b ≤ 16) (g : FuncId) (cap : Array Value) (eg : ∀ args w, (callFunc g args).run Try.prog w = .ok (.enter g args) w)
    (F : Nat → Nat) (hHow : HowGives2 g cap a w0 F S sb (b * a)) :
    Calls Try.prog 60 #[.int .i64 (a : Int), .int .i64 (b : Int), .func (.func g) #[] cap] w0 (HRetX sb (S (b * a)) (madeR a b F) w0) := by
  obtain ⟨i0, hi0, hz0, hz1, hz2⟩ := info_parts infoF32
  have hHow' := Lib.hid hHow
  clear hHow
  go_enter Try.func60, Try.ntmps60
  go_wp2
  go_loopw [15] (fun t wr => ∃ y : Nat, y ≤ b ∧ t = .int .i64 y ∧ Hid (MRel2 sb S (w0.alloc resO) F a b (w0.heap.size + 1) (y * a) wr)) (fun t _ => b - (intOf t).toNat)
  case atStart => exact ⟨0, Nat.zero_le _, rfl, Lib.hid (by rw [Nat.zero_mul]; exact mrel_start2 sb S (w0.alloc resO) F a b (by simp) (by simp; omega) (by rw [alloc_block _ _ hsb]; exact hS0))⟩
  case round =>
    obtain ⟨y, hy, rfl, hM⟩ := hrel
    by_cases hlt : y < b
    · go_wp2
      obtain ⟨wo, rfl⟩ : ∃ wo : World, wo = wr := ⟨_, rfl⟩
      go_loopw [19] (fun t wr => ∃ x : Nat, x ≤ a ∧ t = .int .i64 x ∧ Hid (MRel2 sb S (w0.alloc resO) F a b (w0.heap.size + 1) (y * a + x) wr)) (fun t _ => a - (intOf t).toNat)
      case atStart => exact ⟨0, Nat.zero_le _, rfl, hM⟩
      case round =>
        obtain ⟨x, hx, rfl, hM2⟩ := hrel
        by_cases hlx : x < a
        · obtain ⟨v, ws, hS⟩ := hM2.out
          clear hM2
          have hkm : y * a + x < b * a ∧ b * a ≤ 256 := cell_lt hlx hlt ha2 hb2
          obtain ⟨hk1, hk2⟩ := hkm
          have hk1' := Lib.hid hk1
          clear hk1
          have hkb : y * a + x ≤ 256 := by have := hk1'.out; omega
          have hc2 := Lib.hid hS.c2
          have hs0 := hS.size
          have hs1 := Lib.hid hs0
          clear hs0
          have hS' := Lib.hid hS
          clear hS
          go_wp2_with fail
          refine Rk.region_2 (Rk.two_X sb (S (y * a + x + 1))) [0, 1, 2, 3, 4] 5 [6] [7, 8, 9] (by kernel_rfl) (by kernel_rfl) (by kernel_rfl) (by kernel_rfl) (by kernel_rfl) (by kernel_rfl) (by kernel_rfl) (by kernel_rfl) (by kernel_rfl) (B1 := ?_) (B2 := ?_) (V := Rk.IsFN .f32 (F (y * a + x)) sb (S (y * a + x + 1))) _ rfl ?_ ?_ (Rk.mon_isFN _ _ _ _) ?_ ?_ ?_ ?_
          rotate_left 2
          · intro w1 hw1
            (try simp only [Rk.pick, List.getElem?_cons_succ, List.getElem?_cons_zero, Option.toList_some, List.cons_append, List.nil_append, List.map_cons, List.map_nil])
            repeat (first | ((with_reducible refine Rk.wpR_move Rk.good_bel (S := ?_) ?_ ?_ ?_ ?_); (first | exact Rk.yes_none | exact Rk.yes_some rfl rfl); rotate_left 2; (simp only [Rk.slotS, List.getD_cons_succ, List.getD_cons_zero]; rfl); rotate_left 1; (first | exact Rk.mon_is1 _ | exact Rk.mon_isF _ _ | assumption); (try simp only [Rk.upd, List.set_cons_succ, List.set_cons_zero])) | ((with_reducible refine Rk.wpR_assign Rk.good_bel (S := ?_) ?_ ?_ ?_ ?_); (first | exact Rk.yes_none | exact Rk.yes_some rfl rfl); rotate_left 2; (simp only [Rk.slotS, List.getD_cons_succ, List.getD_cons_zero]; rfl); rotate_left 1; (first | exact Rk.mon_is1 _ | exact Rk.mon_isF _ _ | assumption); (try simp only [Rk.upd, List.set_cons_succ, List.set_cons_zero])) | ((with_reducible refine Rk.wpR_skip (d := ?_) (c := ?_) ?_ ?_ ?_ ?_); rotate_left 2; rfl; rfl; rfl; (try simp only [Rk.upd, List.set_cons_succ, List.set_cons_zero])) | ((with_reducible refine Rk.wpR_pickT Rk.good_bel (S := ?_) ?_ ?_ ?_ ?_ ?_); (first | exact Rk.yes_none | exact Rk.yes_some rfl rfl); rotate_left 2; rfl; (simp only [Rk.slotS, List.getD_cons_succ, List.getD_cons_zero]; rfl); rotate_left 1; (first | exact Rk.mon_is1 _ | exact Rk.mon_isF _ _ | assumption); (try simp only [Rk.upd, List.set_cons_succ, List.set_cons_zero])) | ((with_reducible refine Rk.wpR_pickF Rk.good_bel (S := ?_) ?_ ?_ ?_ ?_ ?_); (first | exact Rk.yes_none | exact Rk.yes_some rfl rfl); rotate_left 2; rfl; (simp only [Rk.slotS, List.getD_cons_succ, List.getD_cons_zero]; rfl); rotate_left 1; (first | exact Rk.mon_is1 _ | exact Rk.mon_isF _ _ | assumption); (try simp only [Rk.upd, List.set_cons_succ, List.set_cons_zero])) | ((with_reducible refine Rk.wpR_widen Rk.good_bel Try.underlying32 Try.underlying56 (X := ?_) (S := ?_) ?_ ?_ ?_ ?_); rotate_left 2; (first | exact Rk.yes_none | exact Rk.yes_some rfl rfl); (simp only [Rk.slotS, List.getD_cons_succ, List.getD_cons_zero]; rfl); (first | exact Rk.subF_is _ _ | (refine Rk.subF_eq ?_; (first | assumption | ((refine Is.lit ?_); decide +kernel) | (refine Is.ofInt _ _)))); (try simp only [Rk.upd, List.set_cons_succ, List.set_cons_zero])) | ((with_reducible refine Rk.wpR_fadd Rk.good_bel (k := ?_) (X := ?_) (Y := ?_) (S := ?_) (T := ?_) ?_ ?_ ?_ ?_ ?_ ?_); rotate_left 5; (first | exact Rk.yes_none | exact Rk.yes_some rfl rfl); (simp only [Rk.slotS, List.getD_cons_succ, List.getD_cons_zero]; rfl); (simp only [Rk.slotS, List.getD_cons_succ, List.getD_cons_zero]; rfl); (first | exact Rk.subF_is _ _ | (refine Rk.subF_eq ?_; (first | assumption | ((refine Is.lit ?_); decide +kernel) | (refine Is.ofInt _ _)))); (first | exact Rk.subF_is _ _ | (refine Rk.subF_eq ?_; (first | assumption | ((refine Is.lit ?_); decide +kernel) | (refine Is.ofInt _ _)))); (try simp only [Rk.upd, List.set_cons_succ, List.set_cons_zero])) | ((with_reducible refine Rk.wpR_fsub Rk.good_bel (k := ?_) (X := ?_) (Y := ?_) (S := ?_) (T := ?_) ?_ ?_ ?_ ?_ ?_ ?_); rotate_left 5; (first | exact Rk.yes_none | exact Rk.yes_some rfl rfl); (simp only [Rk.slotS, List.getD_cons_succ, List.getD_cons_zero]; rfl); (simp only [Rk.slotS, List.getD_cons_succ, List.getD_cons_zero]; rfl); (first | exact Rk.subF_is _ _ | (refine Rk.subF_eq ?_; (first | assumption | ((refine Is.lit ?_); decide +kernel) | (refine Is.ofInt _ _)))); (first | exact Rk.subF_is _ _ | (refine Rk.subF_eq ?_; (first | assumption | ((refine Is.lit ?_); decide +kernel) | (refine Is.ofInt _ _)))); (try simp only [Rk.upd, List.set_cons_succ, List.set_cons_zero])) | ((with_reducible refine Rk.wpR_fmul Rk.good_bel (k := ?_) (X := ?_) (Y := ?_) (S := ?_) (T := ?_) ?_ ?_ ?_ ?_ ?_ ?_); rotate_left 5; (first | exact Rk.yes_none | exact Rk.yes_some rfl rfl); (simp only [Rk.slotS, List.getD_cons_succ, List.getD_cons_zero]; rfl); (simp only [Rk.slotS, List.getD_cons_succ, List.getD_cons_zero]; rfl); (first | exact Rk.subF_is _ _ | (refine Rk.subF_eq ?_; (first | assumption | ((refine Is.lit ?_); decide +kernel) | (refine Is.ofInt _ _)))); (first | exact Rk.subF_is _ _ | (refine Rk.subF_eq ?_; (first | assumption | ((refine Is.lit ?_); decide +kernel) | (refine Is.ofInt _ _)))); (try simp only [Rk.upd, List.set_cons_succ, List.set_cons_zero])) | ((with_reducible refine Rk.wpR_fquo Rk.good_bel (k := ?_) (X := ?_) (Y := ?_) (S := ?_) (T := ?_) ?_ ?_ ?_ ?_ ?_ ?_); rotate_left 5; (first | exact Rk.yes_none | exact Rk.yes_some rfl rfl); (simp only [Rk.slotS, List.getD_cons_succ, List.getD_cons_zero]; rfl); (simp only [Rk.slotS, List.getD_cons_succ, List.getD_cons_zero]; rfl); (first | exact Rk.subF_is _ _ | (refine Rk.subF_eq ?_; (first | assumption | ((refine Is.lit ?_); decide +kernel) | (refine Is.ofInt _ _)))); (first | exact Rk.subF_is _ _ | (refine Rk.subF_eq ?_; (first | assumption | ((refine Is.lit ?_); decide +kernel) | (refine Is.ofInt _ _)))); (try simp only [Rk.upd, List.set_cons_succ, List.set_cons_zero])) | ((with_reducible refine Rk.wpR_feq Rk.good_bel (k := ?_) (X := ?_) (Y := ?_) (S := ?_) (T := ?_) ?_ ?_ ?_ ?_ ?_ ?_); rotate_left 5; (first | exact Rk.yes_none | exact Rk.yes_some rfl rfl); (simp only [Rk.slotS, List.getD_cons_succ, List.getD_cons_zero]; rfl); (simp only [Rk.slotS, List.getD_cons_succ, List.getD_cons_zero]; rfl); (first | exact Rk.subF_is _ _ | (refine Rk.subF_eq ?_; (first | assumption | ((refine Is.lit ?_); decide +kernel) | (refine Is.ofInt _ _)))); (first | exact Rk.subF_is _ _ | (refine Rk.subF_eq ?_; (first | assumption | ((refine Is.lit ?_); decide +kernel) | (refine Is.ofInt _ _)))); (try simp only [Rk.upd, List.set_cons_succ, List.set_cons_zero])) | ((with_reducible refine Rk.wpR_fne Rk.good_bel (k := ?_) (X := ?_) (Y := ?_) (S := ?_) (T := ?_) ?_ ?_ ?_ ?_ ?_ ?_); rotate_left 5; (first | exact Rk.yes_none | exact Rk.yes_some rfl rfl); (simp only [Rk.slotS, List.getD_cons_succ, List.getD_cons_zero]; rfl); (simp only [Rk.slotS, List.getD_cons_succ, List.getD_cons_zero]; rfl); (first | exact Rk.subF_is _ _ | (refine Rk.subF_eq ?_; (first | assumption | ((refine Is.lit ?_); decide +kernel) | (refine Is.ofInt _ _)))); (first | exact Rk.subF_is _ _ | (refine Rk.subF_eq ?_; (first | assumption | ((refine Is.lit ?_); decide +kernel) | (refine Is.ofInt _ _)))); (try simp only [Rk.upd, List.set_cons_succ, List.set_cons_zero])) | ((with_reducible refine Rk.wpR_flt Rk.good_bel (k := ?_) (X := ?_) (Y := ?_) (S := ?_) (T := ?_) ?_ ?_ ?_ ?_ ?_ ?_); rotate_left 5; (first | exact Rk.yes_none | exact Rk.yes_some rfl rfl); (simp only [Rk.slotS, List.getD_cons_succ, List.getD_cons_zero]; rfl); (simp only [Rk.slotS, List.getD_cons_succ, List.getD_cons_zero]; rfl); (first | exact Rk.subF_is _ _ | (refine Rk.subF_eq ?_; (first | assumption | ((refine Is.lit ?_); decide +kernel) | (refine Is.ofInt _ _)))); (first | exact Rk.subF_is _ _ | (refine Rk.subF_eq ?_; (first | assumption | ((refine Is.lit ?_); decide +kernel) | (refine Is.ofInt _ _)))); (try simp only [Rk.upd, List.set_cons_succ, List.set_cons_zero])) | ((with_reducible refine Rk.wpR_fgt Rk.good_bel (k := ?_) (X := ?_) (Y := ?_) (S := ?_) (T := ?_) ?_ ?_ ?_ ?_ ?_ ?_); rotate_left 5; (first | exact Rk.yes_none | exact Rk.yes_some rfl rfl); (simp only [Rk.slotS, List.getD_cons_succ, List.getD_cons_zero]; rfl); (simp only [Rk.slotS, List.getD_cons_succ, List.getD_cons_zero]; rfl); (first | exact Rk.subF_is _ _ | (refine Rk.subF_eq ?_; (first | assumption | ((refine Is.lit ?_); decide +kernel) | (refine Is.ofInt _ _)))); (first | exact Rk.subF_is _ _ | (refine Rk.subF_eq ?_; (first | assumption | ((refine Is.lit ?_); decide +kernel) | (refine Is.ofInt _ _)))); (try simp only [Rk.upd, List.set_cons_succ, List.set_cons_zero])) | ((with_reducible refine Rk.wpR_fge Rk.good_bel (k := ?_) (X := ?_) (Y := ?_) (S := ?_) (T := ?_) ?_ ?_ ?_ ?_ ?_ ?_); rotate_left 5; (first | exact Rk.yes_none | exact Rk.yes_some rfl rfl); (simp only [Rk.slotS, List.getD_cons_succ, List.getD_cons_zero]; rfl); (simp only [Rk.slotS, List.getD_cons_succ, List.getD_cons_zero]; rfl); (first | exact Rk.subF_is _ _ | (refine Rk.subF_eq ?_; (first | assumption | ((refine Is.lit ?_); decide +kernel) | (refine Is.ofInt _ _)))); (first | exact Rk.subF_is _ _ | (refine Rk.subF_eq ?_; (first | assumption | ((refine Is.lit ?_); decide +kernel) | (refine Is.ofInt _ _)))); (try simp only [Rk.upd, List.set_cons_succ, List.set_cons_zero])) | ((with_reducible refine Rk.wpR_fle Rk.good_bel (k := ?_) (X := ?_) (Y := ?_) (S := ?_) (T := ?_) ?_ ?_ ?_ ?_ ?_ ?_); rotate_left 5; (first | exact Rk.yes_none | exact Rk.yes_some rfl rfl); (simp only [Rk.slotS, List.getD_cons_succ, List.getD_cons_zero]; rfl); (simp only [Rk.slotS, List.getD_cons_succ, List.getD_cons_zero]; rfl); (first | exact Rk.subF_is _ _ | (refine Rk.subF_eq ?_; (first | assumption | ((refine Is.lit ?_); decide +kernel) | (refine Is.ofInt _ _)))); (first | exact Rk.subF_is _ _ | (refine Rk.subF_eq ?_; (first | assumption | ((refine Is.lit ?_); decide +kernel) | (refine Is.ofInt _ _)))); (try simp only [Rk.upd, List.set_cons_succ, List.set_cons_zero])) | ((with_reducible refine Rk.wpR_indexAddr Rk.good_bel (v := ?_) (v' := ?_) (u := ?_) ?_ ?_ ?_ ?_ ?_); rotate_left 3; (first | exact Rk.yes_none | exact Rk.yes_some rfl rfl); (simp only [Rk.slotS, List.getD_cons_succ, List.getD_cons_zero]; rfl); (simp only [Rk.slotS, List.getD_cons_succ, List.getD_cons_zero]; rfl); (intro ρ w' hw hK1 hK2; go_simp; rfl); (try simp only [Rk.upd, List.set_cons_succ, List.set_cons_zero])) | ((with_reducible refine Rk.wpR_binOp Rk.good_bel (v := ?_) (v' := ?_) (u := ?_) ?_ ?_ ?_ ?_ ?_); rotate_left 3; (first | exact Rk.yes_none | exact Rk.yes_some rfl rfl); (simp only [Rk.slotS, List.getD_cons_succ, List.getD_cons_zero]; rfl); (simp only [Rk.slotS, List.getD_cons_succ, List.getD_cons_zero]; rfl); (intro ρ w' hw hK1 hK2; go_simp; rfl); (try simp only [Rk.upd, List.set_cons_succ, List.set_cons_zero])) | ((with_reducible refine Rk.wpR_load Rk.good_bel (v := ?_) (u := ?_) ?_ ?_ ?_ ?_); rotate_left 2; (first | exact Rk.yes_none | exact Rk.yes_some rfl rfl); (simp only [Rk.slotS, List.getD_cons_succ, List.getD_cons_zero]; rfl); (intro ρ w' hw hK1; have k2 := (hw.cell (p := ⟨w0.heap.size + 1, 2, none⟩) (by have := hs1.out; have := hw1.bel.size; show w0.heap.size + 1 < _; omega)).trans ((hw1.bel.cell (p := ⟨w0.heap.size + 1, 2, none⟩) (by have := hs1.out; show w0.heap.size + 1 < _; omega) (by simp; omega)).trans hc2.out); go_simp; rfl); (try simp only [Rk.upd, List.set_cons_succ, List.set_cons_zero])) | ((with_reducible refine Rk.wpR_unOp Rk.good_bel (v := ?_) (u := ?_) ?_ ?_ ?_ ?_); rotate_left 2; (first | exact Rk.yes_none | exact Rk.yes_some rfl rfl); (simp only [Rk.slotS, List.getD_cons_succ, List.getD_cons_zero]; rfl); (intro ρ w' hw hK1; go_simp; rfl); (try simp only [Rk.upd, List.set_cons_succ, List.set_cons_zero])) | ((with_reducible refine Rk.wpR_convert Rk.good_bel (v := ?_) (u := ?_) ?_ ?_ ?_ ?_); rotate_left 2; (first | exact Rk.yes_none | exact Rk.yes_some rfl rfl); (simp only [Rk.slotS, List.getD_cons_succ, List.getD_cons_zero]; rfl); (intro ρ w' hw hK1; go_simp; rfl); (try simp only [Rk.upd, List.set_cons_succ, List.set_cons_zero])) | ((with_reducible refine Rk.wpR_field Rk.good_bel (v := ?_) (u := ?_) ?_ ?_ ?_ ?_); rotate_left 2; (first | exact Rk.yes_none | exact Rk.yes_some rfl rfl); (simp only [Rk.slotS, List.getD_cons_succ, List.getD_cons_zero]; rfl); (intro ρ w' hw hK1; go_simp; rfl); (try simp only [Rk.upd, List.set_cons_succ, List.set_cons_zero])) | ((with_reducible refine Rk.wpR_fieldAddr Rk.good_bel (v := ?_) (u := ?_) ?_ ?_ ?_ ?_); rotate_left 2; (first | exact Rk.yes_none | exact Rk.yes_some rfl rfl); (simp only [Rk.slotS, List.getD_cons_succ, List.getD_cons_zero]; rfl); (intro ρ w' hw hK1; go_simp; rfl); (try simp only [Rk.upd, List.set_cons_succ, List.set_cons_zero])) | ((with_reducible refine Rk.wpR_nilCheck Rk.good_bel (v := ?_) (u := ?_) ?_ ?_ ?_ ?_); rotate_left 2; (first | exact Rk.yes_none | exact Rk.yes_some rfl rfl); (simp only [Rk.slotS, List.getD_cons_succ, List.getD_cons_zero]; rfl); (intro ρ w' hw hK1; go_simp; rfl); (try simp only [Rk.upd, List.set_cons_succ, List.set_cons_zero])) | ((with_reducible refine Rk.wpR_builtin1 Rk.good_bel (v := ?_) (u := ?_) ?_ ?_ ?_ ?_); rotate_left 2; (first | exact Rk.yes_none | exact Rk.yes_some rfl rfl); (simp only [Rk.slotS, List.getD_cons_succ, List.getD_cons_zero]; rfl); (intro ρ w' hw hK1; go_simp; rfl); (try simp only [Rk.upd, List.set_cons_succ, List.set_cons_zero])) | ((with_reducible refine Rk.wpR_extract Rk.good_bel (v := ?_) (u := ?_) ?_ ?_ ?_ ?_); rotate_left 2; (first | exact Rk.yes_none | exact Rk.yes_some rfl rfl); (simp only [Rk.slotS, List.getD_cons_succ, List.getD_cons_zero]; rfl); (intro ρ w' hw hK1; go_simp; rfl); (try simp only [Rk.upd, List.set_cons_succ, List.set_cons_zero])))
            exact rfl
          · repeat (first | exact Rk.allMon_nil | refine Rk.allMon_is1 ?_)
          · refine Rk.callv2_gives eg (by simp only [Rk.slotS, List.getD_cons_succ, List.getD_cons_zero]; rfl) (by simp only [Rk.slotS, List.getD_cons_succ, List.getD_cons_zero]; rfl) (by simp only [Rk.slotS, List.getD_cons_succ, List.getD_cons_zero]; rfl) ?_
            intro w1 hw1
            refine hHow'.out x y w1 hlx hk1'.out ((BelX.of ((Bel.refl w0).alloc resO)).trans (hS'.out.bel.trans (BelX.of hw1))) ?_
            rw [hw1.block sb (by have := hs1.out; omega)]
            exact hS'.out.inv
          · intro w1 hw1
            (try simp only [Rk.pick, List.getElem?_cons_succ, List.getElem?_cons_zero, Option.toList_some, List.cons_append, List.nil_append, List.map_cons, List.map_nil, Rk.upd, List.set_cons_succ, List.set_cons_zero])
            refine Rk.wpR_newL (E := 32) (lo := wr.heap.size) (k := .f32) (X := F (y * a + x)) (S := Rk.IsFN .f32 (F (y * a + x)) sb (S (y * a + x + 1))) hw1.bel.size (by first | exact Rk.yes_none | exact Rk.yes_some rfl rfl) (by rfl) (fun w v h => h.1) (fun ρ w' r h1 => by go_simp) ?_
            exact rfl
          · (try simp only [Rk.upd, List.set_cons_succ, List.set_cons_zero])
            repeat (first | exact Rk.allMon_nil | refine Rk.allMon_is1 ?_ | refine Rk.allMon_cons (Rk.mon_isFN _ _ _ _) ?_ | refine Rk.allMon_cons (Rk.mon_newL _ _ _ _ _ _ (by have := hs1.out; omega)) ?_)
          refine Rk.end_2 ?_
          intro wK hwK
          (try simp only [Rk.pick, List.getElem?_cons_succ, List.getElem?_cons_zero, Option.toList_some, List.cons_append, List.nil_append, Rk.upd, List.set_cons_succ, List.set_cons_zero])
          repeat (first | refine Rk.all2_is1 ?_ | (refine Rk.all2_any ?_; rintro vF ⟨⟨rF, rfl, hrF⟩, hSB⟩; clear hrF) | (refine Rk.all2_any ?_; rintro vK ⟨bN, r, rfl, hbN, hcN, hr⟩))
          refine Rk.all2_nil ?_
          have hX := hwK.bel
          replace hSB := Lib.hid hSB
          obtain ⟨bx1, hown1, hs2⟩ := hS'.out.keep (by simp) (by simp; omega) wK hX
          have hown1' := Lib.hid hown1
          have bx1' := Lib.hid bx1
          have hX' := Lib.hid hX
          clear hown1 bx1 hX
          go_wp2_with (at_builtin; refine wpList_append_own _ rfl _ _ 22 rfl (w0.alloc resO).heap.size 32 i0 _ 1 4 Try.underlying22 hi0 hz0 hz1 hz2 rfl (by omega) v (y * a + x) (ws.map (Value.float .f32)) rfl hown1'.out ⟨bN, 0, none⟩ 1 1 [.float .f32 r] rfl rfl ?c1 ?c2 ?c3 ?c4 ?c5 ?_)
          case c1 => exact World.news_of_block (cs := #[.float .f32 r]) (t := 32) (fr := (0, 0)) hcN
          case c2 => intro u hu; simp at hu; subst hu; rfl
          case c3 => unfold maxLen; omega
          case c4 => omega
          case c5 => have := hs2; simp; omega
          intro v2 w2 hown2 hgrow _
          obtain ⟨g3, cap3, rfl⟩ := own_succ hown2
          have bx2 := grown_keep bx1'.out hs2 hgrow hS'.out.far
          rw [show w0.heap.size + 1 = (w0.alloc resO).heap.size from by simp] at hown2
          have hc2b := box_c2 bx2
          have hc3b := cells_free bx2 2
          have hN := Lib.hid (hS'.out.next (by simp) (by decide) (fun k' wa wb h1 h2 => by rw [h2.block sb (by simp; omega)]; exact h1) (by simp; omega) hX'.out hSB.out hr hown2 hgrow)
          clear bx2 hown2 hgrow
          go_wp2
          refine ⟨⟨x + 1, by omega, by simp, Lib.hid ⟨_, _, hN.out⟩⟩, ?_⟩
          show a - (((x : Nat) : Int) + 1).toNat < a - ((x : Nat) : Int).toNat
          omega
        · go_wp2
          obtain rfl : x = a := by omega
          refine ⟨⟨y + 1, by omega, by simp, Lib.hid (by rw [Nat.add_mul, Nat.one_mul]; exact hM2.out)⟩, ?_⟩
          show b - (((y : Nat) : Int) + 1).toNat < b - ((y : Nat) : Int).toNat
          omega
    · obtain rfl : y = b := by omega
      obtain ⟨v, ws, hS⟩ := hM.out
      have hpos : 0 < y * a := Nat.mul_pos (by omega) (by omega)
      have hle : y * a ≤ 256 := Nat.le_trans (Nat.mul_le_mul hb2 ha2) (by omega)
      obtain ⟨g2, cap2, rfl, hO⟩ := mst_orow hS hpos
      have c0 := hS.c0
      have c1 := hS.c1
      have c2 := hS.c2
      have hv := valid_made (F := F) ha1 ha2 hb1 hb2 (fun i hi => (hS.is i hi).2)
      have hv' := Lib.hid hv
      have hO' := Lib.hid hO
      have hS' := Lib.hid hS
      clear hM hS hO hv
      go_wp2_with fail
      refine (told_any _ _ _ _ _ _ ws hO'.out.row (by omega)).mono ?_
      rintro e w1 ⟨rfl, hB⟩
      rw [hv'.out]
      have hres : w1.heap[w0.heap.size]? = some (.cells #[.int .i64 0, .int .i64 0, .slice none 0 0] 27 (0, 0)) := by
        rw [hB.block _ (by have := hS'.out.size; omega), hS'.out.bel.block _ (by simp) (by simp; omega)]; exact heap_alloc_new w0 _
      have y0 : w1.cell? ⟨w0.heap.size, 0, none⟩ = some (.int .i64 0) := by unfold World.cell?; simp [hres]
      have y1 : w1.cell? ⟨w0.heap.size, 1, none⟩ = some (.int .i64 0) := by unfold World.cell?; simp [hres]
      have y2 : w1.cell? ⟨w0.heap.size, 2, none⟩ = some (.slice none 0 0) := by unfold World.cell?; simp [hres]
      have f0 := cells_free hres 0
      have f1 := cells_free hres 1
      have f2 := cells_free hres 2
      have hB' := Lib.hid hB
      have hBX := Lib.hid (((BelX.of ((Bel.refl w0).alloc resO)).trans (hS'.out.bel.trans (BelX.of hB))))
      have hSBe := Lib.hid (show w1.heap[sb]? = some (S (y * a)) by rw [hB.block sb (by have := hS'.out.size; omega)]; exact hS'.out.inv)
      clear hB hres
      cases hal : allB (fun i => fin32B (F i)) (y * a) with
      | true =>
        have hR := Lib.hid (show madeR a y F = ⟨true, a, y, y * a, F⟩ by unfold madeR; rw [hal]; rfl)
        clear hal
        go_wp2_with fail
        refine bodyPost_ret (v := .tuple #[hillV a y (some ⟨g2, 0, none⟩) (y * a) cap2, .bool true]) (by simp [results, Try.results60, go_sem, y0, y1, y2]) rfl ?_
        rw [hR.out]
        refine ⟨_, cap2, ws, rfl, ?_, fun i hi => (hS'.out.is i hi).2, ?_, ?_⟩
        · refine ((((hO'.out.bel hB'.out).setOther ?_ _).setOther ?_ _).setOther ?_ _).mono (by simp) ?_
          iterate 3 (intro q hq; cases hq; have hfar := mst_far hS'.out; simp at hfar; simp; omega)
          simp [World.setCell]; exact hB'.out.size
        · exact (((hBX.out.setCell (by simp) _).setCell (by simp) _).setCell (by simp) _)
        · rw [heap_setOther (by simp; omega), heap_setOther (by simp; omega), heap_setOther (by simp; omega)]; exact hSBe.out
      | false =>
        have hR := Lib.hid (show madeR a y F = ⟨false, 0, 0, 0, F⟩ by unfold madeR; rw [hal]; rfl)
        clear hal
        go_wp2_with fail
        refine bodyPost_ret (v := .tuple #[hillV 0 0 none 0 0, .bool false]) (by simp [results, Try.results60, go_sem, y0, y1, y2]) rfl ?_
        rw [hR.out]
        refine ⟨none, 0, [], rfl, ORow.nil _ _ _, fun i hi => absurd hi (Nat.not_lt_zero _), ?_, ?_⟩
        · exact (((hBX.out.setCell (by simp) _).setCell (by simp) _).setCell (by simp) _)
        · rw [heap_setOther (by simp; omega), heap_setOther (by simp; omega), heap_setOther (by simp; omega)]; exact hSBe.out
end Go.Proofs.Ytobghfjkkkfecaa
