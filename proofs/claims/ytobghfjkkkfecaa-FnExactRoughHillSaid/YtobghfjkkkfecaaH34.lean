/-
  CONTRACTS: a rough hill, the program's.
-/
import Derived.Test.YtobghfjkkkfecaaH33
set_option linter.unusedSimpArgs false
set_option linter.unusedVariables false
namespace Go.Proofs.Ytobghfjkkkfecaa
open Go.RowKit Go.Fl

theorem seed_at (w : World) (g : Nat) (hg : w.heap.size = g) (v : Value) (o : Obj) : ((w.alloc (.cells #[v] 2)).alloc o).heap[g]? = some (.cells #[v] 2 (0, 0)) := by
  subst hg
  rw [alloc_block _ _ (by simp)]
  exact heap_alloc_new _ _
theorem box_bel {w w1 w3 : World} {o1 o2 : Obj} {g : Nat} (h : Bel w w1) (hg : w1.heap.size = g) (hX : BelX (some g) ((w1.alloc o1).alloc o2) w3) : Bel w w3 := by
  have hb := ((h.alloc o1).alloc o2)
  refine ⟨hX.os.trans hb.os, hX.tape.trans hb.tape, hX.output.trans hb.output, Nat.le_trans hb.size hX.size, fun j hj => ?_⟩
  have := h.size
  rw [hX.block j (by simp; omega) (by simp; omega)]
  exact hb.block j hj
theorem roret_yes {W H : Int} {n : Nat} {xs : List Nat} {BY : Nat} {s : Int} {w w' : World} {a1 b1 : Int} {N cap : Nat} {ao : Option Addr} {F : Nat → Nat} {ys : List Nat} (hR : roughR W H n xs BY s = ⟨true, a1, b1, N, F⟩)
    (hO : ORow w.heap.size w'.heap.size w' ao N ys) (hF : ∀ i, i < N → cn .f32 (ys.getD i 0) = F i) (hb : Bel w w') :
    RoRet (roughR W H n xs BY s) (roughZ W H n xs BY s) w (.returned (.tuple #[hillV a1 b1 ao N cap, .int .i64 (seedN s N), .bool true])) w' := by
  unfold roughZ
  rw [hR]
  exact ⟨ao, cap, ys, rfl, hO, hF, hb⟩
theorem isSeed_any (z : Int) (w : World) : Calls Try.prog 77 #[.int .i64 z] w fun e w' => e = .returned (.bool (inB z 0 2147483647)) ∧ w = w' := by
  go_enter Try.func77, Try.ntmps77
  go_wp2_with fail
  refine (within_any _ _ _ _).mono ?_
  rintro e w' ⟨rfl, rfl⟩
  go_wp2_with fail
  go_ret
  exact ⟨rfl, rfl⟩
set_option maxHeartbeats 2000000 in
theorem iRoughHill_any (w : World) (W H : Int) (ao : Option Addr) (n c : Nat) (xs : List Nat) (by' BY : Nat) (s : Int) (hby : Is .f32 by' BY) (hA : FRow w ao n xs) (hm : n ≤ 1048576) :
    Calls Try.prog 38 #[hillV W H ao n c, .float .f32 by', .int .i64 s] w (RoRet (roughR W H n xs BY s) (roughZ W H n xs BY s) w) := by
  have hA' := Lib.hid hA
  clear hA
  cases hv : validB W H n xs with
  | false =>
    have hR := Lib.hid (show roughR W H n xs BY s = noR by unfold roughR; rw [hv]; rfl)
    have hv' := Lib.hid hv
    clear hv
    go_enter Try.func38, Try.ntmps38
    go_wp2_with fail
    refine (iValidHill_any _ W H _ _ _ xs (by exact (((hA'.out.alloc _).alloc _).alloc _).alloc _) hm).mono ?_
    rintro e w1 ⟨rfl, hB⟩
    rw [hv'.out]
    obtain ⟨y0, y1, y2, f0, f1, f2⟩ := rbox_facts ((rbox_at (((w.alloc _).alloc _).alloc _) (w.heap.size + 1 + 1 + 1) (by simp)).bel hB)
    have hB' := Lib.hid hB
    clear hB
    go_wp2_with fail
    refine bodyPost_ret (v := .tuple #[hillV 0 0 none 0 0, .int .i64 0, .bool false]) (by simp [results, Try.results38, go_sem, y0, y1, y2]) rfl (roret_no hR.out ?_)
    exact ((((((((Bel.refl w).alloc _).alloc _).alloc _).alloc _).trans hB'.out).setCell (by simp; omega) _).setCell (by simp; omega) _).setCell (by simp; omega) _
  | true =>
    obtain ⟨a, b, rfl, rfl, ha1, ha2, hb1, hb2, rfl, hf⟩ := valid_nat hv
    have hv' := Lib.hid hv
    have hpos : 0 < b * a := Nat.mul_pos (by omega) (by omega)
    obtain ⟨bo, off, rfl, hbo, _⟩ := hA'.out.at0 hpos
    replace hbo := Lib.hid hbo
    have hR0 := Lib.hid (show roughR a b (b * a) xs BY s = if fin32B BY && inB s 0 2147483647 then madeR a b (roughF xs BY s) else noR by unfold roughR; rw [hv]; simp)
    clear hv hf
    go_enter Try.func38, Try.ntmps38
    go_wp2_with fail
    refine (iValidHill_any _ a b _ _ _ xs (by exact (((hA'.out.alloc _).alloc _).alloc _).alloc _) hm).mono ?_
    rintro e w1 ⟨rfl, hB⟩
    rw [hv'.out]
    have hX := Lib.hid (HBox.bel ((((hbox_new w a b (.slice (some ⟨bo, off, none⟩) (b * a) c) 27).alloc _).alloc _).alloc _) hB)
    have hY := Lib.hid ((rbox_at (((w.alloc _).alloc _).alloc _) (w.heap.size + 1 + 1 + 1) (by simp)).bel hB)
    have hF := FBox.bel (b := w.heap.size + 1) (((fbox_at (w.alloc _) (w.heap.size + 1) by' 32 (by simp))).bel (((Bel.refl _).alloc _).alloc _)) hB
    have hF' := Lib.hid hF
    have k3 := hF.2
    have hSd := Lib.hid (show w1.heap[w.heap.size + 1 + 1]? = some (.cells #[.int .i64 s] 2 (0, 0)) by rw [hB.block _ (by simp)]; exact seed_at _ _ (by simp) _ _)
    have hA1 := Lib.hid (((((hA'.out.alloc _).alloc _).alloc _).alloc _).bel hB)
    have hB' := Lib.hid hB
    clear hB hF
    go_wp2_with fail
    refine (iIsFinite_any by' BY hby _).mono ?_
    rintro e w2 ⟨rfl, hD⟩
    have hB2 := dr_bel hD
    replace hX := Lib.hid (hX.out.bel hB2)
    replace hY := Lib.hid (hY.out.bel hB2)
    replace hSd := Lib.hid (show w2.heap[w.heap.size + 1 + 1]? = _ from (hB2.block _ (by have := hB'.out.size; simp at this; omega)).trans hSd.out)
    replace hF' := Lib.hid (hF'.out.bel hB2)
    replace hA1 := Lib.hid (hA1.out.bel hB2)
    replace hB' := Lib.hid (hB'.out.trans hB2)
    clear hB2 hD k3
    cases hfy : fin32B BY with
    | false =>
      have hR := Lib.hid (show roughR a b (b * a) xs BY s = noR by rw [hR0.out, hfy]; rfl)
      obtain ⟨y0, y1, y2, f0, f1, f2⟩ := rbox_facts hY.out
      clear hfy
      go_wp2_with fail
      refine bodyPost_ret (v := .tuple #[hillV 0 0 none 0 0, .int .i64 0, .bool false]) (by simp [results, Try.results38, go_sem, y0, y1, y2]) rfl (roret_no hR.out ?_)
      exact ((((((((Bel.refl w).alloc _).alloc _).alloc _).alloc _).trans hB'.out).setCell (by simp; omega) _).setCell (by simp; omega) _).setCell (by simp; omega) _
    | true =>
      have s0 : w2.cell? ⟨w.heap.size + 1 + 1, 0, none⟩ = some (.int .i64 s) := by unfold World.cell?; simp [hSd.out]
      cases hsd : inB s 0 2147483647 with
      | false =>
        have hR := Lib.hid (show roughR a b (b * a) xs BY s = noR by rw [hR0.out, hfy, hsd]; rfl)
        replace hsd := Lib.hid hsd
        obtain ⟨y0, y1, y2, f0, f1, f2⟩ := rbox_facts hY.out
        clear hfy
        go_wp2_with (go_at_call 77; refine (isSeed_any _ _).mono ?_; rintro e w' ⟨rfl, rfl⟩; rw [hsd.out])
        refine bodyPost_ret (v := .tuple #[hillV 0 0 none 0 0, .int .i64 0, .bool false]) (by simp [results, Try.results38, go_sem, y0, y1, y2]) rfl (roret_no hR.out ?_)
        exact ((((((((Bel.refl w).alloc _).alloc _).alloc _).alloc _).trans hB'.out).setCell (by simp; omega) _).setCell (by simp; omega) _).setCell (by simp; omega) _
      | true =>
      obtain ⟨hs1, hs2⟩ := inB_iff.1 hsd
      have hR := Lib.hid (show roughR a b (b * a) xs BY s = madeR a b (roughF xs BY s) by rw [hR0.out, hfy, hsd]; rfl)
      replace hsd := Lib.hid hsd
      clear hfy
      obtain ⟨_, x0, x1, x2⟩ := hX.out
      go_wp2_with (go_at_call 77; refine (isSeed_any _ _).mono ?_; rintro e w' ⟨rfl, rfl⟩; rw [hsd.out])
      refine (made_any2 w2 (w.heap.size + 1 + 1) (seedO s) (by have := hB'.out.size; simp at this; omega) hSd.out a b ha1 ha2 hb1 hb2 78 #[.pointer (some ⟨w.heap.size + 1 + 1, 0, none⟩), .pointer (some ⟨w.heap.size, 0, none⟩), .pointer (some ⟨w.heap.size + 1, 0, none⟩)] (Rg.enters Try.func78 (by kernel_rfl) (by kernel_rfl)) (roughF xs BY s) (iRoughHow w2 w.heap.size (w.heap.size + 1) (w.heap.size + 1 + 1) a b ha1 ha2 hb1 hb2 bo off c xs by' BY s hs1 hs2 hby hF'.out hX.out hA1.out (by omega) (by omega) (by have := hbo.out; omega))).mono ?_
      rintro e w3 ⟨ao2, c2, ws, he, hO, hG, hB3, hS3⟩
      have hY3 := Lib.hid (rbox_belx hY.out hB3 (by simp))
      have hBB := Lib.hid (show BelX (some (w.heap.size + 1 + 1)) _ w3 from (BelX.of hB'.out).trans hB3)
      have s3 : w3.cell? ⟨w.heap.size + 1 + 1, 0, none⟩ = some (.int .i64 (seedN s (b * a))) := by unfold World.cell?; simp [hS3]
      have hlt3 := hY3.out.1
      have hlt4 : w.heap.size + 1 + 1 < w3.heap.size := by omega
      clear hB3 x0 x1 x2 s0 hS3
      obtain ⟨y0, y1, y2, f0, f1, f2⟩ := rbox_facts hY3.out
      have hsz2 := Lib.hid (show w.heap.size ≤ w2.heap.size from by have := hB'.out.size; simp at this; omega)
      cases hal : allB (fun i => fin32B (roughF xs BY s i)) (b * a) with
      | false =>
        have hR2 := Lib.hid (hR.out.trans (madeR_f hal))
        rw [madeR_f hal] at he
        replace he : e = .returned (.tuple #[hillV 0 0 ao2 0 c2, .bool false]) := he
        subst he
        clear hO hG hal
        go_wp2_with fail
        refine bodyPost_ret (v := .tuple #[hillV 0 0 none 0 0, .int .i64 0, .bool false]) (by simp [results, Try.results38, go_sem, y0, y1, y2, hlt3]) rfl (roret_no hR2.out ?_)
        exact (((((box_bel (((Bel.refl w).alloc _).alloc _) (by simp) hBB.out).setCell (by simp; omega) _).setCell (by simp; omega) _).setCell (by simp; omega) _).alloc _)
      | true =>
        have hR2 := Lib.hid (hR.out.trans (madeR_t hal))
        rw [madeR_t hal] at he hO hG
        replace he : e = .returned (.tuple #[hillV a b ao2 ((b * a : Nat) : Int).toNat c2, .bool true]) := he
        rw [Int.toNat_natCast] at he
        subst he
        have hO' := Lib.hid hO
        have hG' := Lib.hid hG
        clear hO hG hal
        go_wp2_with fail
        go_region
        go_wp2
        refine bodyPost_ret (v := .tuple #[hillV a b ao2 (b * a) c2, .int .i64 (seedN s (b * a)), .bool true]) (by simp [results, Try.results38, go_sem, y0, y1, y2, hlt3]) rfl ?_
        have hfar : ∀ q, ao2 = some q → q.block ≠ w.heap.size + 1 + 1 + 1 := fun q hq => by have := (hO'.out.own q hq).1; have := hY.out.1; omega
        have hsz := hsz2.out
        exact roret_yes hR2.out ((((((hO'.out.setOther hfar _).setOther hfar _).setOther hfar _).alloc _).drewN 1).mono hsz (by simp [World.setCell, World.drewN])) hG'.out ((((((box_bel (((Bel.refl w).alloc _).alloc _) (by simp) hBB.out).setCell (by simp; omega) _).setCell (by simp; omega) _).setCell (by simp; omega) _).alloc _).drewN 1)
end Go.Proofs.Ytobghfjkkkfecaa
