/-
  CONTRACTS: a hill that is made cell by cell out of a function value.
-/
import Derived.Test.YtobghfjkkkfecaaH4
import Derived.Test.YtobghfjkkkfecaaMd
import Derived.Deep.RegionHeld3
import Derived.StillTactics
set_option linter.unusedSimpArgs false
set_option linter.unusedVariables false
namespace Go.Proofs.Ytobghfjkkkfecaa
open Go.RowKit Go.Fl

/-- a hill, if it is valid -/
def TuRet (ok : Bool) (W H : Int) (ao : Option Addr) (n c : Nat) (w : World) (e : Ending) (w' : World) : Prop :=
  e = .returned (.tuple #[if ok then hillV W H ao n c else hillV 0 0 none 0 0, .bool ok]) ∧ Bel w w'
set_option maxHeartbeats 1000000 in
theorem told_any (w : World) (W H : Int) (ao : Option Addr) (n c : Nat) (xs : List Nat) (hA : FRow w ao n xs) (hm : n ≤ 1048576) :
    Calls Try.prog 96 #[hillV W H ao n c] w (TuRet (validB W H n xs) W H ao n c w) := by
  have hA' := Lib.hid hA
  clear hA
  cases hv : validB W H n xs with
  | true =>
    have hv' := Lib.hid hv
    clear hv
    go_enter Try.func96, Try.ntmps96
    go_wp2_with fail
    refine (iValidHill_any _ W H _ _ _ xs (by exact (hA'.out.alloc _).alloc _) hm).mono ?_
    rintro e w1 ⟨rfl, hB⟩
    rw [hv'.out]
    have hX := HBox.bel ((hbox_new w W H (.slice ao n c) 27).alloc _) hB
    have hY := HBox.bel (hbox_at (w.alloc _) (w.heap.size + 1) (by simp) 0 0 (.slice none 0 0) 27) hB
    obtain ⟨_, x0, x1, x2⟩ := hX
    obtain ⟨_, y0, y1, y2⟩ := hY
    have f0 : w1.frozen? ⟨w.heap.size + 1, 0, none⟩ = false := by rw [hB.frozen (by simp)]; go_simp
    have f1 : w1.frozen? ⟨w.heap.size + 1, 1, none⟩ = false := by rw [hB.frozen (by simp)]; go_simp
    have f2 : w1.frozen? ⟨w.heap.size + 1, 2, none⟩ = false := by rw [hB.frozen (by simp)]; go_simp
    have hB' := Lib.hid hB
    clear hB
    go_wp2_with fail
    refine bodyPost_ret (v := .tuple #[hillV W H ao n c, .bool true]) (by simp [results, Try.results96, go_sem, x0, x1, x2, y0, y1, y2]) rfl ⟨rfl, ?_⟩
    exact ((((((Bel.refl w).alloc _).alloc _).trans hB'.out).setCell (by simp) _).setCell (by simp) _).setCell (by simp) _
  | false =>
    have hv' := Lib.hid hv
    clear hv
    go_enter Try.func96, Try.ntmps96
    go_wp2_with fail
    refine (iValidHill_any _ W H _ _ _ xs (by exact (hA'.out.alloc _).alloc _) hm).mono ?_
    rintro e w1 ⟨rfl, hB⟩
    rw [hv'.out]
    have hY := HBox.bel (hbox_at (w.alloc _) (w.heap.size + 1) (by simp) 0 0 (.slice none 0 0) 27) hB
    obtain ⟨_, y0, y1, y2⟩ := hY
    have f0 : w1.frozen? ⟨w.heap.size + 1, 0, none⟩ = false := by rw [hB.frozen (by simp)]; go_simp
    have f1 : w1.frozen? ⟨w.heap.size + 1, 1, none⟩ = false := by rw [hB.frozen (by simp)]; go_simp
    have f2 : w1.frozen? ⟨w.heap.size + 1, 2, none⟩ = false := by rw [hB.frozen (by simp)]; go_simp
    have hB' := Lib.hid hB
    clear hB
    go_wp2_with fail
    refine bodyPost_ret (v := .tuple #[hillV 0 0 none 0 0, .bool false]) (by simp [results, Try.results96, go_sem, y0, y1, y2]) rfl ⟨rfl, ?_⟩
    exact ((((((Bel.refl w).alloc _).alloc _).trans hB'.out).setCell (by simp) _).setCell (by simp) _).setCell (by simp) _
set_option maxHeartbeats 1000000 in
theorem give_any (w : World) (W H : Int) (ao : Option Addr) (n c : Nat) (xs : List Nat) (hA : FRow w ao n xs) (hm : n ≤ 1048576) :
    Calls Try.prog 58 #[hillV W H ao n c] w (TuRet (validB W H n xs) W H ao n c w) := by
  have hA' := Lib.hid hA
  clear hA
  cases hv : validB W H n xs with
  | true =>
    have hv' := Lib.hid hv
    clear hv
    go_enter Try.func58, Try.ntmps58
    go_wp2_with fail
    refine (l02Is_any _ _ W H _ _ _ xs ((hbox_new w W H (.slice ao n c) 27).alloc _) (by exact (hA'.out.alloc _).alloc _) hm).mono ?_
    rintro e w1 ⟨rfl, hB⟩
    rw [hv'.out]
    have hX := HBox.bel ((hbox_new w W H (.slice ao n c) 27).alloc _) hB
    have hY := HBox.bel (hbox_at (w.alloc _) (w.heap.size + 1) (by simp) 0 0 (.slice none 0 0) 27) hB
    obtain ⟨_, x0, x1, x2⟩ := hX
    obtain ⟨_, y0, y1, y2⟩ := hY
    have f0 : w1.frozen? ⟨w.heap.size + 1, 0, none⟩ = false := by rw [hB.frozen (by simp)]; go_simp
    have f1 : w1.frozen? ⟨w.heap.size + 1, 1, none⟩ = false := by rw [hB.frozen (by simp)]; go_simp
    have f2 : w1.frozen? ⟨w.heap.size + 1, 2, none⟩ = false := by rw [hB.frozen (by simp)]; go_simp
    have hB' := Lib.hid hB
    clear hB
    go_wp2_with fail
    refine bodyPost_ret (v := .tuple #[hillV W H ao n c, .bool true]) (by simp [results, Try.results58, go_sem, x0, x1, x2, y0, y1, y2]) rfl ⟨rfl, ?_⟩
    exact ((((((Bel.refl w).alloc _).alloc _).trans hB'.out).setCell (by simp) _).setCell (by simp) _).setCell (by simp) _
  | false =>
    have hv' := Lib.hid hv
    clear hv
    go_enter Try.func58, Try.ntmps58
    go_wp2_with fail
    refine (l02Is_any _ _ W H _ _ _ xs ((hbox_new w W H (.slice ao n c) 27).alloc _) (by exact (hA'.out.alloc _).alloc _) hm).mono ?_
    rintro e w1 ⟨rfl, hB⟩
    rw [hv'.out]
    have hY := HBox.bel (hbox_at (w.alloc _) (w.heap.size + 1) (by simp) 0 0 (.slice none 0 0) 27) hB
    obtain ⟨_, y0, y1, y2⟩ := hY
    have f0 : w1.frozen? ⟨w.heap.size + 1, 0, none⟩ = false := by rw [hB.frozen (by simp)]; go_simp
    have f1 : w1.frozen? ⟨w.heap.size + 1, 1, none⟩ = false := by rw [hB.frozen (by simp)]; go_simp
    have f2 : w1.frozen? ⟨w.heap.size + 1, 2, none⟩ = false := by rw [hB.frozen (by simp)]; go_simp
    have hB' := Lib.hid hB
    clear hB
    go_wp2_with fail
    refine bodyPost_ret (v := .tuple #[hillV 0 0 none 0 0, .bool false]) (by simp [results, Try.results58, go_sem, y0, y1, y2]) rfl ⟨rfl, ?_⟩
    exact ((((((Bel.refl w).alloc _).alloc _).trans hB'.out).setCell (by simp) _).setCell (by simp) _).setCell (by simp) _
/-- what a function value gives that is asked for the number of a cell: it reads only what was there -/
abbrev HowGives (g : FuncId) (cap : Array Value) (a : Nat) (w0 : World) (F : Nat → Nat) (N : Nat) : Prop :=
  ∀ (x y : Nat) (w : World), x < a → y * a + x < N → Bel w0 w → Rk.CallGives Try.prog Bel g (#[.int .i64 (x : Int), .int .i64 (y : Int)] ++ cap) w (Rk.IsF .f32 (F (y * a + x)))
abbrev MI (w0 : World) : Nat → World → Prop := fun _ _ => True
abbrev resO : Obj := .cells #[.int .i64 0, .int .i64 0, .slice none 0 0] 27
def MRel (w0 : World) (F : Nat → Nat) (W H : Int) (hb k : Nat) (wr : World) : Prop := ∃ v ws, MSt w0 none (MI w0) F W H 27 32 hb k wr v ws
theorem cell_lt {x y a b : Nat} (hx : x < a) (hy : y < b) (ha : a ≤ 16) (hb : b ≤ 16) : y * a + x < b * a ∧ b * a ≤ 256 := by
  have h1 : (y + 1) * a ≤ b * a := Nat.mul_le_mul_right a hy
  have h2 : b * a ≤ 16 * 16 := Nat.mul_le_mul hb ha
  rw [Nat.add_mul, Nat.one_mul] at h1
  omega
theorem mrel_start (w0 : World) (F : Nat → Nat) (W H : Int) {hb : Nat} (hh : hb = w0.heap.size) : MRel w0 F W H hb 0 (w0.alloc (.cells #[.int .i64 W, .int .i64 H, .slice none 0 0] 27)) := by
  subst hh
  refine ⟨.slice none 0 0, [], heap_alloc_new w0 _, World.ownsRow_nil _ _ _ _, by simp [Value.ownBlock], rfl, fun i hi => absurd hi (by omega), trivial, .of ((Bel.refl w0).alloc _), by simp⟩
theorem mrel_start0 (w0 : World) (F : Nat → Nat) (W H : Int) {hb : Nat} (hh : hb = w0.heap.size + 1) : MRel w0 F W H hb 0 ((w0.alloc (.cells #[] 32)).alloc (.cells #[.int .i64 W, .int .i64 H, .slice (some ⟨w0.heap.size, 0, none⟩) 0 0] 27)) := by
  subst hh
  have e : (w0.alloc (.cells #[] 32)).heap.size = w0.heap.size + 1 := by simp
  refine ⟨.slice (some ⟨w0.heap.size, 0, none⟩) 0 0, [], ?_, ?_, by simp [Value.ownBlock], rfl, fun i hi => absurd hi (by omega), trivial, .of (((Bel.refl w0).alloc _).alloc _), by simp⟩
  · rw [← e]; exact heap_alloc_new _ _
  · exact (World.ownsRow_made w0 #[] 0 (Nat.le_refl _) (by unfold maxLen; omega) rfl).alloc _
/-- a hill that has been made: whether it is one, and which -/
def madeR (a b : Nat) (F : Nat → Nat) : HillR := if allB (fun i => fin32B (F i)) (b * a) then ⟨true, a, b, b * a, F⟩ else ⟨false, 0, 0, 0, F⟩

theorem valid_made {a b : Nat} {F : Nat → Nat} {ws : List Nat} (ha1 : 1 ≤ a) (ha2 : a ≤ 16) (hb1 : 1 ≤ b) (hb2 : b ≤ 16) (h : ∀ i, i < b * a → cn .f32 (ws.getD i 0) = F i) :
    validB (a : Int) (b : Int) (b * a) ws = allB (fun i => fin32B (F i)) (b * a) := by
  have e1 : sideB (a : Int) (b : Int) = true := sideB_iff.2 ⟨⟨by omega, by omega⟩, by omega, by omega⟩
  have e2 : (((b * a : Nat) : Int) = (a : Int) * (b : Int)) := by rw [Int.natCast_mul, Int.mul_comm]
  unfold validB
  rw [e1, decide_eq_true e2, Bool.true_and, Bool.true_and]
  unfold finB
  exact allB_congr (fun i hi => by rw [h i hi])
theorem mst_far {w0 : World} {bs : Option Nat} {Inv : Nat → World → Prop} {F : Nat → Nat} {W H : Int} {T E : TypeId} {hb k : Nat} {wr : World} {g cap : Nat} {ws : List Nat} (h : MSt w0 bs Inv F W H T E hb k wr (.slice (some ⟨g, 0, none⟩) k cap) ws) : w0.heap.size ≤ g ∧ g ≠ hb := ⟨own_row h.own g rfl, fun e => h.far (by rw [e]; rfl)⟩

set_option maxRecDepth 100000 in
set_option maxHeartbeats 4000000 in
theorem made_any (w0 : World) (a b : Nat) (ha1 : 1 ≤ a) (ha2 : a ≤ 16) (hb1 : 1 ≤ b) (hb2 : b ≤ 16) (g : FuncId) (cap : Array Value) (eg : ∀ args w, (callFunc g args).run Try.prog w = .ok (.enter g args) w)
    (F : Nat → Nat) (hHow : HowGives g cap a w0 F (b * a)) :
    Calls Try.prog 60 #[.int .i64 (a : Int), .int .i64 (b : Int), .func (.func g) #[] cap] w0 (HRet (madeR a b F) w0) := by
  obtain ⟨i0, hi0, hz0, hz1, hz2⟩ := info_parts infoF32
  have hHow' := Lib.hid hHow
  clear hHow
  go_enter Try.func60, Try.ntmps60
  go_wp2
  go_loopw [15] (fun t wr => ∃ y : Nat, y ≤ b ∧ t = .int .i64 y ∧ Hid (MRel (w0.alloc resO) F a b (w0.heap.size + 1) (y * a) wr)) (fun t _ => b - (intOf t).toNat)
  case atStart => exact ⟨0, Nat.zero_le _, rfl, Lib.hid (by rw [Nat.zero_mul]; exact mrel_start (w0.alloc resO) F a b (by simp))⟩
  case round =>
    obtain ⟨y, hy, rfl, hM⟩ := hrel
    by_cases hlt : y < b
    · go_wp2
      obtain ⟨wo, rfl⟩ : ∃ wo : World, wo = wr := ⟨_, rfl⟩
      go_loopw [19] (fun t wr => ∃ x : Nat, x ≤ a ∧ t = .int .i64 x ∧ Hid (MRel (w0.alloc resO) F a b (w0.heap.size + 1) (y * a + x) wr)) (fun t _ => a - (intOf t).toNat)
      case atStart => exact ⟨0, Nat.zero_le _, rfl, hM⟩
      case round =>
        obtain ⟨x, hx, rfl, hM2⟩ := hrel
        by_cases hlx : x < a
        · obtain ⟨v, ws, hS⟩ := hM2.out
          clear hM2
          have hkm : y * a + x < b * a ∧ b * a ≤ 256 := cell_lt hlx hlt ha2 hb2
          obtain ⟨hk1, hk2⟩ := hkm
          have hk1' := Lib.hid hk1
          clear hk1
          have hkb : y * a + x ≤ 256 := by have := hk1'.out; omega
          have hc2 := Lib.hid hS.c2
          have hs0 := hS.size
          have hs1 := Lib.hid hs0
          clear hs0
          have hS' := Lib.hid hS
          clear hS
          go_wp2_with fail
          (refine Rk.region_K (Le := Bel) [0, 1, 2, 3, 4, 5, 6] [7, 8, 9] Rk.good_bel (by kernel_rfl) (by kernel_rfl) (by kernel_rfl) (by kernel_rfl) ?_; (try simp only [Rk.pick, List.getElem?_cons_succ, List.getElem?_cons_zero, Option.toList_some, List.cons_append, List.nil_append, List.map_cons, List.map_nil]))
          repeat (first | ((with_reducible refine Rk.wpR_move Rk.good_bel (S := ?_) ?_ ?_ ?_ ?_); (first | exact Rk.yes_none | exact Rk.yes_some rfl rfl); rotate_left 2; (simp only [Rk.slotS, List.getD_cons_succ, List.getD_cons_zero]; rfl); rotate_left 1; (first | exact Rk.mon_is1 _ | exact Rk.mon_isF _ _ | assumption); (try simp only [Rk.upd, List.set_cons_succ, List.set_cons_zero])) | ((with_reducible refine Rk.wpR_assign Rk.good_bel (S := ?_) ?_ ?_ ?_ ?_); (first | exact Rk.yes_none | exact Rk.yes_some rfl rfl); rotate_left 2; (simp only [Rk.slotS, List.getD_cons_succ, List.getD_cons_zero]; rfl); rotate_left 1; (first | exact Rk.mon_is1 _ | exact Rk.mon_isF _ _ | assumption); (try simp only [Rk.upd, List.set_cons_succ, List.set_cons_zero])) | ((with_reducible refine Rk.wpR_skip (d := ?_) (c := ?_) ?_ ?_ ?_ ?_); rotate_left 2; rfl; rfl; rfl; (try simp only [Rk.upd, List.set_cons_succ, List.set_cons_zero])) | ((with_reducible refine Rk.wpR_pickT Rk.good_bel (S := ?_) ?_ ?_ ?_ ?_ ?_); (first | exact Rk.yes_none | exact Rk.yes_some rfl rfl); rotate_left 2; rfl; (simp only [Rk.slotS, List.getD_cons_succ, List.getD_cons_zero]; rfl); rotate_left 1; (first | exact Rk.mon_is1 _ | exact Rk.mon_isF _ _ | assumption); (try simp only [Rk.upd, List.set_cons_succ, List.set_cons_zero])) | ((with_reducible refine Rk.wpR_pickF Rk.good_bel (S := ?_) ?_ ?_ ?_ ?_ ?_); (first | exact Rk.yes_none | exact Rk.yes_some rfl rfl); rotate_left 2; rfl; (simp only [Rk.slotS, List.getD_cons_succ, List.getD_cons_zero]; rfl); rotate_left 1; (first | exact Rk.mon_is1 _ | exact Rk.mon_isF _ _ | assumption); (try simp only [Rk.upd, List.set_cons_succ, List.set_cons_zero])) | ((with_reducible refine Rk.wpR_widen Rk.good_bel Try.underlying32 Try.underlying56 (X := ?_) (S := ?_) ?_ ?_ ?_ ?_); rotate_left 2; (first | exact Rk.yes_none | exact Rk.yes_some rfl rfl); (simp only [Rk.slotS, List.getD_cons_succ, List.getD_cons_zero]; rfl); (first | exact Rk.subF_is _ _ | (refine Rk.subF_eq ?_; (first | assumption | ((refine Is.lit ?_); decide +kernel) | (refine Is.ofInt _ _)))); (try simp only [Rk.upd, List.set_cons_succ, List.set_cons_zero])) | ((with_reducible refine Rk.wpR_fadd Rk.good_bel (k := ?_) (X := ?_) (Y := ?_) (S := ?_) (T := ?_) ?_ ?_ ?_ ?_ ?_ ?_); rotate_left 5; (first | exact Rk.yes_none | exact Rk.yes_some rfl rfl); (simp only [Rk.slotS, List.getD_cons_succ, List.getD_cons_zero]; rfl); (simp only [Rk.slotS, List.getD_cons_succ, List.getD_cons_zero]; rfl); (first | exact Rk.subF_is _ _ | (refine Rk.subF_eq ?_; (first | assumption | ((refine Is.lit ?_); decide +kernel) | (refine Is.ofInt _ _)))); (first | exact Rk.subF_is _ _ | (refine Rk.subF_eq ?_; (first | assumption | ((refine Is.lit ?_); decide +kernel) | (refine Is.ofInt _ _)))); (try simp only [Rk.upd, List.set_cons_succ, List.set_cons_zero])) | ((with_reducible refine Rk.wpR_fsub Rk.good_bel (k := ?_) (X := ?_) (Y := ?_) (S := ?_) (T := ?_) ?_ ?_ ?_ ?_ ?_ ?_); rotate_left 5; (first | exact Rk.yes_none | exact Rk.yes_some rfl rfl); (simp only [Rk.slotS, List.getD_cons_succ, List.getD_cons_zero]; rfl); (simp only [Rk.slotS, List.getD_cons_succ, List.getD_cons_zero]; rfl); (first | exact Rk.subF_is _ _ | (refine Rk.subF_eq ?_; (first | assumption | ((refine Is.lit ?_); decide +kernel) | (refine Is.ofInt _ _)))); (first | exact Rk.subF_is _ _ | (refine Rk.subF_eq ?_; (first | assumption | ((refine Is.lit ?_); decide +kernel) | (refine Is.ofInt _ _)))); (try simp only [Rk.upd, List.set_cons_succ, List.set_cons_zero])) | ((with_reducible refine Rk.wpR_fmul Rk.good_bel (k := ?_) (X := ?_) (Y := ?_) (S := ?_) (T := ?_) ?_ ?_ ?_ ?_ ?_ ?_); rotate_left 5; (first | exact Rk.yes_none | exact Rk.yes_some rfl rfl); (simp only [Rk.slotS, List.getD_cons_succ, List.getD_cons_zero]; rfl); (simp only [Rk.slotS, List.getD_cons_succ, List.getD_cons_zero]; rfl); (first | exact Rk.subF_is _ _ | (refine Rk.subF_eq ?_; (first | assumption | ((refine Is.lit ?_); decide +kernel) | (refine Is.ofInt _ _)))); (first | exact Rk.subF_is _ _ | (refine Rk.subF_eq ?_; (first | assumption | ((refine Is.lit ?_); decide +kernel) | (refine Is.ofInt _ _)))); (try simp only [Rk.upd, List.set_cons_succ, List.set_cons_zero])) | ((with_reducible refine Rk.wpR_fquo Rk.good_bel (k := ?_) (X := ?_) (Y := ?_) (S := ?_) (T := ?_) ?_ ?_ ?_ ?_ ?_ ?_); rotate_left 5; (first | exact Rk.yes_none | exact Rk.yes_some rfl rfl); (simp only [Rk.slotS, List.getD_cons_succ, List.getD_cons_zero]; rfl); (simp only [Rk.slotS, List.getD_cons_succ, List.getD_cons_zero]; rfl); (first | exact Rk.subF_is _ _ | (refine Rk.subF_eq ?_; (first | assumption | ((refine Is.lit ?_); decide +kernel) | (refine Is.ofInt _ _)))); (first | exact Rk.subF_is _ _ | (refine Rk.subF_eq ?_; (first | assumption | ((refine Is.lit ?_); decide +kernel) | (refine Is.ofInt _ _)))); (try simp only [Rk.upd, List.set_cons_succ, List.set_cons_zero])) | ((with_reducible refine Rk.wpR_feq Rk.good_bel (k := ?_) (X := ?_) (Y := ?_) (S := ?_) (T := ?_) ?_ ?_ ?_ ?_ ?_ ?_); rotate_left 5; (first | exact Rk.yes_none | exact Rk.yes_some rfl rfl); (simp only [Rk.slotS, List.getD_cons_succ, List.getD_cons_zero]; rfl); (simp only [Rk.slotS, List.getD_cons_succ, List.getD_cons_zero]; rfl); (first | exact Rk.subF_is _ _ | (refine Rk.subF_eq ?_; (first | assumption | ((refine Is.lit ?_); decide +kernel) | (refine Is.ofInt _ _)))); (first | exact Rk.subF_is _ _ | (refine Rk.subF_eq ?_; (first | assumption | ((refine Is.lit ?_); decide +kernel) | (refine Is.ofInt _ _)))); (try simp only [Rk.upd, List.set_cons_succ, List.set_cons_zero])) | ((with_reducible refine Rk.wpR_fne Rk.good_bel (k := ?_) (X := ?_) (Y := ?_) (S := ?_) (T := ?_) ?_ ?_ ?_ ?_ ?_ ?_); rotate_left 5; (first | exact Rk.yes_none | exact Rk.yes_some rfl rfl); (simp only [Rk.slotS, List.getD_cons_succ, List.getD_cons_zero]; rfl); (simp only [Rk.slotS, List.getD_cons_succ, List.getD_cons_zero]; rfl); (first | exact Rk.subF_is _ _ | (refine Rk.subF_eq ?_; (first | assumption | ((refine Is.lit ?_); decide +kernel) | (refine Is.ofInt _ _)))); (first | exact Rk.subF_is _ _ | (refine Rk.subF_eq ?_; (first | assumption | ((refine Is.lit ?_); decide +kernel) | (refine Is.ofInt _ _)))); (try simp only [Rk.upd, List.set_cons_succ, List.set_cons_zero])) | ((with_reducible refine Rk.wpR_flt Rk.good_bel (k := ?_) (X := ?_) (Y := ?_) (S := ?_) (T := ?_) ?_ ?_ ?_ ?_ ?_ ?_); rotate_left 5; (first | exact Rk.yes_none | exact Rk.yes_some rfl rfl); (simp only [Rk.slotS, List.getD_cons_succ, List.getD_cons_zero]; rfl); (simp only [Rk.slotS, List.getD_cons_succ, List.getD_cons_zero]; rfl); (first | exact Rk.subF_is _ _ | (refine Rk.subF_eq ?_; (first | assumption | ((refine Is.lit ?_); decide +kernel) | (refine Is.ofInt _ _)))); (first | exact Rk.subF_is _ _ | (refine Rk.subF_eq ?_; (first | assumption | ((refine Is.lit ?_); decide +kernel) | (refine Is.ofInt _ _)))); (try simp only [Rk.upd, List.set_cons_succ, List.set_cons_zero])) | ((with_reducible refine Rk.wpR_fgt Rk.good_bel (k := ?_) (X := ?_) (Y := ?_) (S := ?_) (T := ?_) ?_ ?_ ?_ ?_ ?_ ?_); rotate_left 5; (first | exact Rk.yes_none | exact Rk.yes_some rfl rfl); (simp only [Rk.slotS, List.getD_cons_succ, List.getD_cons_zero]; rfl); (simp only [Rk.slotS, List.getD_cons_succ, List.getD_cons_zero]; rfl); (first | exact Rk.subF_is _ _ | (refine Rk.subF_eq ?_; (first | assumption | ((refine Is.lit ?_); decide +kernel) | (refine Is.ofInt _ _)))); (first | exact Rk.subF_is _ _ | (refine Rk.subF_eq ?_; (first | assumption | ((refine Is.lit ?_); decide +kernel) | (refine Is.ofInt _ _)))); (try simp only [Rk.upd, List.set_cons_succ, List.set_cons_zero])) | ((with_reducible refine Rk.wpR_fge Rk.good_bel (k := ?_) (X := ?_) (Y := ?_) (S := ?_) (T := ?_) ?_ ?_ ?_ ?_ ?_ ?_); rotate_left 5; (first | exact Rk.yes_none | exact Rk.yes_some rfl rfl); (simp only [Rk.slotS, List.getD_cons_succ, List.getD_cons_zero]; rfl); (simp only [Rk.slotS, List.getD_cons_succ, List.getD_cons_zero]; rfl); (first | exact Rk.subF_is _ _ | (refine Rk.subF_eq ?_; (first | assumption | ((refine Is.lit ?_); decide +kernel) | (refine Is.ofInt _ _)))); (first | exact Rk.subF_is _ _ | (refine Rk.subF_eq ?_; (first | assumption | ((refine Is.lit ?_); decide +kernel) | (refine Is.ofInt _ _)))); (try simp only [Rk.upd, List.set_cons_succ, List.set_cons_zero])) | ((with_reducible refine Rk.wpR_fle Rk.good_bel (k := ?_) (X := ?_) (Y := ?_) (S := ?_) (T := ?_) ?_ ?_ ?_ ?_ ?_ ?_); rotate_left 5; (first | exact Rk.yes_none | exact Rk.yes_some rfl rfl); (simp only [Rk.slotS, List.getD_cons_succ, List.getD_cons_zero]; rfl); (simp only [Rk.slotS, List.getD_cons_succ, List.getD_cons_zero]; rfl); (first | exact Rk.subF_is _ _ | (refine Rk.subF_eq ?_; (first | assumption | ((refine Is.lit ?_); decide +kernel) | (refine Is.ofInt _ _)))); (first | exact Rk.subF_is _ _ | (refine Rk.subF_eq ?_; (first | assumption | ((refine Is.lit ?_); decide +kernel) | (refine Is.ofInt _ _)))); (try simp only [Rk.upd, List.set_cons_succ, List.set_cons_zero])) | ((with_reducible refine Rk.wpR_indexAddr Rk.good_bel (v := ?_) (v' := ?_) (u := ?_) ?_ ?_ ?_ ?_ ?_); rotate_left 3; (first | exact Rk.yes_none | exact Rk.yes_some rfl rfl); (simp only [Rk.slotS, List.getD_cons_succ, List.getD_cons_zero]; rfl); (simp only [Rk.slotS, List.getD_cons_succ, List.getD_cons_zero]; rfl); (intro ρ w' hw hK1 hK2; go_simp; rfl); (try simp only [Rk.upd, List.set_cons_succ, List.set_cons_zero])) | ((with_reducible refine Rk.wpR_binOp Rk.good_bel (v := ?_) (v' := ?_) (u := ?_) ?_ ?_ ?_ ?_ ?_); rotate_left 3; (first | exact Rk.yes_none | exact Rk.yes_some rfl rfl); (simp only [Rk.slotS, List.getD_cons_succ, List.getD_cons_zero]; rfl); (simp only [Rk.slotS, List.getD_cons_succ, List.getD_cons_zero]; rfl); (intro ρ w' hw hK1 hK2; go_simp; rfl); (try simp only [Rk.upd, List.set_cons_succ, List.set_cons_zero])) | ((with_reducible refine Rk.wpR_load Rk.good_bel (v := ?_) (u := ?_) ?_ ?_ ?_ ?_); rotate_left 2; (first | exact Rk.yes_none | exact Rk.yes_some rfl rfl); (simp only [Rk.slotS, List.getD_cons_succ, List.getD_cons_zero]; rfl); (intro ρ w' hw hK1; have k2 := (hw.cell (p := ⟨w0.heap.size + 1, 2, none⟩) (by have := hs1.out; show w0.heap.size + 1 < _; omega)).trans hc2.out; go_simp; rfl); (try simp only [Rk.upd, List.set_cons_succ, List.set_cons_zero])) | ((with_reducible refine Rk.wpR_unOp Rk.good_bel (v := ?_) (u := ?_) ?_ ?_ ?_ ?_); rotate_left 2; (first | exact Rk.yes_none | exact Rk.yes_some rfl rfl); (simp only [Rk.slotS, List.getD_cons_succ, List.getD_cons_zero]; rfl); (intro ρ w' hw hK1; go_simp; rfl); (try simp only [Rk.upd, List.set_cons_succ, List.set_cons_zero])) | ((with_reducible refine Rk.wpR_convert Rk.good_bel (v := ?_) (u := ?_) ?_ ?_ ?_ ?_); rotate_left 2; (first | exact Rk.yes_none | exact Rk.yes_some rfl rfl); (simp only [Rk.slotS, List.getD_cons_succ, List.getD_cons_zero]; rfl); (intro ρ w' hw hK1; go_simp; rfl); (try simp only [Rk.upd, List.set_cons_succ, List.set_cons_zero])) | ((with_reducible refine Rk.wpR_field Rk.good_bel (v := ?_) (u := ?_) ?_ ?_ ?_ ?_); rotate_left 2; (first | exact Rk.yes_none | exact Rk.yes_some rfl rfl); (simp only [Rk.slotS, List.getD_cons_succ, List.getD_cons_zero]; rfl); (intro ρ w' hw hK1; go_simp; rfl); (try simp only [Rk.upd, List.set_cons_succ, List.set_cons_zero])) | ((with_reducible refine Rk.wpR_fieldAddr Rk.good_bel (v := ?_) (u := ?_) ?_ ?_ ?_ ?_); rotate_left 2; (first | exact Rk.yes_none | exact Rk.yes_some rfl rfl); (simp only [Rk.slotS, List.getD_cons_succ, List.getD_cons_zero]; rfl); (intro ρ w' hw hK1; go_simp; rfl); (try simp only [Rk.upd, List.set_cons_succ, List.set_cons_zero])) | ((with_reducible refine Rk.wpR_nilCheck Rk.good_bel (v := ?_) (u := ?_) ?_ ?_ ?_ ?_); rotate_left 2; (first | exact Rk.yes_none | exact Rk.yes_some rfl rfl); (simp only [Rk.slotS, List.getD_cons_succ, List.getD_cons_zero]; rfl); (intro ρ w' hw hK1; go_simp; rfl); (try simp only [Rk.upd, List.set_cons_succ, List.set_cons_zero])) | ((with_reducible refine Rk.wpR_builtin1 Rk.good_bel (v := ?_) (u := ?_) ?_ ?_ ?_ ?_); rotate_left 2; (first | exact Rk.yes_none | exact Rk.yes_some rfl rfl); (simp only [Rk.slotS, List.getD_cons_succ, List.getD_cons_zero]; rfl); (intro ρ w' hw hK1; go_simp; rfl); (try simp only [Rk.upd, List.set_cons_succ, List.set_cons_zero])) | ((with_reducible refine Rk.wpR_extract Rk.good_bel (v := ?_) (u := ?_) ?_ ?_ ?_ ?_); rotate_left 2; (first | exact Rk.yes_none | exact Rk.yes_some rfl rfl); (simp only [Rk.slotS, List.getD_cons_succ, List.getD_cons_zero]; rfl); (intro ρ w' hw hK1; go_simp; rfl); (try simp only [Rk.upd, List.set_cons_succ, List.set_cons_zero])))
          (refine Rk.wpR_callv2 Rk.good_bel (S := ?_) (S2 := ?_) (V := Rk.IsF .f32 (F (y * a + x))) (cap := cap) eg ?_ ?_ ?_ ?_ ?_ ?_ ?_; rotate_left 2; (first | exact Rk.yes_none | exact Rk.yes_some rfl rfl); rfl; (simp only [Rk.slotS, List.getD_cons_succ, List.getD_cons_zero]; rfl); (simp only [Rk.slotS, List.getD_cons_succ, List.getD_cons_zero]; rfl); rotate_left 2; (try simp only [Rk.upd, List.set_cons_succ, List.set_cons_zero]); rotate_right 2)
          · exact Rk.mon_isF _ _
          · rintro u u2 w' hw rfl rfl
            exact hHow'.out x y w' hlx hk1'.out (((Bel.refl w0).alloc resO).trans (hS'.out.bel.bel.trans hw))
          ((refine Rk.wpR_new1 (k := ?_) (X := ?_) (E := 32) ?_ ?_ ?_ ?_); rotate_left 2; (first | exact Rk.yes_none | exact Rk.yes_some rfl rfl); (simp only [Rk.slotS, List.getD_cons_succ, List.getD_cons_zero]; rfl); (focus (intro ρ w' r h1; go_simp)); (try simp only [Rk.upd, List.set_cons_succ, List.set_cons_zero]))
          refine Rk.wpR_end ?_
          intro wK hwK
          repeat (first | refine Rk.all2_is1 ?_ | (refine Rk.all2_isF ?_; intro r0 hr0; clear hr0) | (refine Rk.all2_any ?_; rintro vK ⟨bN, vN, rfl, hbN, hcN, r, rfl, hr⟩))
          refine Rk.all2_nil ?_
          have hX := BelX.of (bs := none) hwK
          obtain ⟨bx1, hown1, hs2⟩ := hS'.out.keep (by simp) (by simp) wK hX
          have hown1' := Lib.hid hown1
          have bx1' := Lib.hid bx1
          have hX' := Lib.hid hX
          clear hown1 bx1 hX
          go_wp2_with (at_builtin; refine wpList_append_own _ rfl _ _ 22 rfl (w0.alloc resO).heap.size 32 i0 _ 1 4 Try.underlying22 hi0 hz0 hz1 hz2 rfl (by omega) v (y * a + x) (ws.map (Value.float .f32)) rfl hown1'.out ⟨bN, 0, none⟩ 1 1 [.float .f32 r] rfl rfl ?c1 ?c2 ?c3 ?c4 ?c5 ?_)
          case c1 => exact World.news_of_block (cs := #[.float .f32 r]) (t := 32) (fr := (0, 0)) hcN
          case c2 => intro u hu; simp at hu; subst hu; rfl
          case c3 => unfold maxLen; omega
          case c4 => omega
          case c5 => have := hs2; simp; omega
          intro v2 w2 hown2 hgrow _
          obtain ⟨g3, cap3, rfl⟩ := own_succ hown2
          have bx2 := grown_keep bx1'.out hs2 hgrow hS'.out.far
          rw [show w0.heap.size + 1 = (w0.alloc resO).heap.size from by simp] at hown2
          have hc2b := box_c2 bx2
          have hc3b := cells_free bx2 2
          have hN := Lib.hid (hS'.out.next (by simp) (by decide) (fun _ _ _ _ _ => trivial) (by simp) hX'.out trivial hr hown2 hgrow)
          clear bx2 hown2 hgrow
          go_wp2
          refine ⟨⟨x + 1, by omega, by simp, Lib.hid ⟨_, _, hN.out⟩⟩, ?_⟩
          show a - (((x : Nat) : Int) + 1).toNat < a - ((x : Nat) : Int).toNat
          omega
        · go_wp2
          obtain rfl : x = a := by omega
          refine ⟨⟨y + 1, by omega, by simp, Lib.hid (by rw [Nat.add_mul, Nat.one_mul]; exact hM2.out)⟩, ?_⟩
          show b - (((y : Nat) : Int) + 1).toNat < b - ((y : Nat) : Int).toNat
          omega
    · obtain rfl : y = b := by omega
      obtain ⟨v, ws, hS⟩ := hM.out
      have hpos : 0 < y * a := Nat.mul_pos (by omega) (by omega)
      have hle : y * a ≤ 256 := Nat.le_trans (Nat.mul_le_mul hb2 ha2) (by omega)
      obtain ⟨g2, cap2, rfl, hO⟩ := mst_orow hS hpos
      have c0 := hS.c0
      have c1 := hS.c1
      have c2 := hS.c2
      have hv := valid_made (F := F) ha1 ha2 hb1 hb2 (fun i hi => (hS.is i hi).2)
      have hv' := Lib.hid hv
      have hO' := Lib.hid hO
      have hS' := Lib.hid hS
      clear hM hS hO hv
      go_wp2_with fail
      refine (told_any _ _ _ _ _ _ ws hO'.out.row (by omega)).mono ?_
      rintro e w1 ⟨rfl, hB⟩
      rw [hv'.out]
      have hres : w1.heap[w0.heap.size]? = some (.cells #[.int .i64 0, .int .i64 0, .slice none 0 0] 27 (0, 0)) := by
        rw [hB.block _ (by have := hS'.out.size; omega), hS'.out.bel.bel.block _ (by simp)]; exact heap_alloc_new w0 _
      have y0 : w1.cell? ⟨w0.heap.size, 0, none⟩ = some (.int .i64 0) := by unfold World.cell?; simp [hres]
      have y1 : w1.cell? ⟨w0.heap.size, 1, none⟩ = some (.int .i64 0) := by unfold World.cell?; simp [hres]
      have y2 : w1.cell? ⟨w0.heap.size, 2, none⟩ = some (.slice none 0 0) := by unfold World.cell?; simp [hres]
      have f0 := cells_free hres 0
      have f1 := cells_free hres 1
      have f2 := cells_free hres 2
      have hB' := Lib.hid hB
      clear hB hres
      cases hal : allB (fun i => fin32B (F i)) (y * a) with
      | true =>
        have hR := Lib.hid (show madeR a y F = ⟨true, a, y, y * a, F⟩ by unfold madeR; rw [hal]; rfl)
        clear hal
        go_wp2_with fail
        refine bodyPost_ret (v := .tuple #[hillV a y (some ⟨g2, 0, none⟩) (y * a) cap2, .bool true]) (by simp [results, Try.results60, go_sem, y0, y1, y2]) rfl ?_
        rw [hR.out]
        refine ⟨_, cap2, ws, rfl, ?_, fun i hi => (hS'.out.is i hi).2, ?_⟩
        · refine ((((hO'.out.bel hB'.out).setOther ?_ _).setOther ?_ _).setOther ?_ _).mono (by simp) ?_
          iterate 3 (intro q hq; cases hq; have hfar := mst_far hS'.out; simp at hfar; simp; omega)
          simp [World.setCell]; exact hB'.out.size
        · exact (((((Bel.refl w0).alloc resO).trans (hS'.out.bel.bel.trans hB'.out)).setCell (by simp) _).setCell (by simp) _).setCell (by simp) _
      | false =>
        have hR := Lib.hid (show madeR a y F = ⟨false, 0, 0, 0, F⟩ by unfold madeR; rw [hal]; rfl)
        clear hal
        go_wp2_with fail
        refine bodyPost_ret (v := .tuple #[hillV 0 0 none 0 0, .bool false]) (by simp [results, Try.results60, go_sem, y0, y1, y2]) rfl ?_
        rw [hR.out]
        refine ⟨none, 0, [], rfl, ORow.nil _ _ _, fun i hi => absurd hi (Nat.not_lt_zero _), ?_⟩
        exact (((((Bel.refl w0).alloc resO).trans (hS'.out.bel.bel.trans hB'.out)).setCell (by simp) _).setCell (by simp) _).setCell (by simp) _
end Go.Proofs.Ytobghfjkkkfecaa
