/-
  PLAIN LAWS AND CONTRACTS, part 4: several texts laid behind one another.
-/
import Derived.Test.YtianaalokclklaaGreatDoorPr3
import Derived.Test.YtianaalokclklaaGreatDoorPr1
import Derived.Test.YtianaalokclklaaGreatDoorPr2
import Derived.ArgAppend

/-
  CONTRACTS: complex numbers read, the reference's.
-/
section
set_option linter.unusedSimpArgs false
set_option linter.unusedVariables false
namespace Go.Proofs.YtianaalokclklaaGreatDoor
open Go.RowKit Go.Fl

theorem infoC64 : (Tryz.prog.info? 24).map (fun i => (i.zero, i.size, i.bytes)) = some (some (.complex .f32 0 0), 1, 8) := by kernel_rfl
/-- the parts of a piece -/
abbrev lo8 (q : List UInt8) : List UInt8 := q.take 8
abbrev hi8 (q : List UInt8) : List UInt8 := q.drop 8
def hexC (q : List UInt8) : Bool := decide (q.length = 16) && (hexB (lo8 q) && hexB (hi8 q))
theorem hexC_len {q : List UInt8} (h : q.length ≠ 16) : hexC q = false := by unfold hexC; rw [decide_eq_false h]; rfl
theorem hexC_of {q : List UInt8} (h : q.length = 16) : hexC q = (hexB (lo8 q) && hexB (hi8 q)) := by unfold hexC; rw [decide_eq_true h]; rfl
def rcB (l : List UInt8) : Bool := noneB l || (decide ((pcs l).length ≤ 256) && allB (fun i => hexC (pieceN l i)) (pcs l).length)
def rcN (l : List UInt8) : Nat := if rcB l && !noneB l then (pcs l).length else 0
theorem rcN_le (l : List UInt8) : rcN l ≤ 256 := by
  unfold rcN
  cases h1 : noneB l with
  | true => rw [Bool.not_true, Bool.and_false]; simp
  | false =>
    cases h2 : rcB l with
    | false => simp
    | true =>
      unfold rcB at h2
      rw [h1, Bool.false_or, Bool.and_eq_true, decide_eq_true_eq] at h2
      simpa using h2.1
abbrev reX (l : List UInt8) : Nat → Nat := fun i => valH (lo8 (pieceN l i))
abbrev imX (l : List UInt8) : Nat → Nat := fun i => valH (hi8 (pieceN l i))
def cxs (ps : List (Nat × Nat)) : List Value := ps.map fun p => .complex .f32 p.1 p.2
/-- a row of complex numbers of the call's own -/
def CRw (w wr : World) (v : Value) (ps : List (Nat × Nat)) : Prop := ∃ g cap, v = .slice (some ⟨g, 0, none⟩) ps.length cap ∧ wr.ownsRow w.heap.size 24 1 v ps.length (cxs ps) ∧ Bel w wr
theorem CRw.bel {w wr w1 : World} {v : Value} {ps : List (Nat × Nat)} (h : CRw w wr v ps) (hb : Bel wr w1) : CRw w w1 v ps := by
  obtain ⟨g, cap, rfl, h1, h2⟩ := h
  exact ⟨g, cap, rfl, own_belx (bs := none) h1 (BelX.of hb) (by intro j hj; cases hj), h2.trans hb⟩
theorem CRw.start (w wr : World) (hb : Bel w wr) : CRw w (wr.alloc (.cells #[] 24)) (.slice (some ⟨wr.heap.size, 0, none⟩) 0 0) [] :=
  ⟨_, _, rfl, World.ownsRow_made wr #[] 0 hb.size (by unfold maxLen; omega) rfl, hb.alloc _⟩
theorem CRw.next {w wr w2 : World} {v v2 : Value} {ps : List (Nat × Nat)} {x y : Nat} {o : Obj} (h : CRw w wr v ps) (hown : w2.ownsRow w.heap.size 24 1 v2 (ps.length + 1) (cxs ps ++ [.complex .f32 x y])) (hg : (wr.alloc o).grownBy w2 v.ownBlock) : CRw w w2 v2 (ps ++ [(x, y)]) := by
  obtain ⟨g, cap, rfl, h1, h2⟩ := h
  have e : cxs ps ++ [.complex .f32 x y] = cxs (ps ++ [(x, y)]) := by simp [cxs]
  have e2 : ps.length + 1 = (ps ++ [(x, y)]).length := by simp
  rw [e] at hown
  obtain ⟨g2, cap2, rfl⟩ := own_succ hown
  have hs := h2.size
  have hb : Below w.heap.size (wr.alloc o) w2 := (Below.refl _ _).grown hg (by simp; omega) (own_row h1)
  exact ⟨g2, cap2, by rw [e2], by rw [← e2]; exact hown, Below.trans (h2.alloc o) hb⟩
theorem PBlk.nextC {w wr w2 : World} {v : Value} {ps : List (Nat × Nat)} {g N : Nat} {o : Obj} {f : Nat → List UInt8} {cs : Array Value} (h : PBlk wr g N f cs) (hI : CRw w wr v ps) (hg : (wr.alloc o).grownBy w2 v.ownBlock) : PBlk w2 g N f cs := by
  obtain ⟨g1, cap, rfl, h1, h2⟩ := hI
  refine ⟨grown_keep (w1 := wr.alloc o) (o := .cells cs 9 (0, 0)) ?_ ?_ hg (own_far h1 (by decide) h.heap), h.at'⟩
  · rw [((Bel.refl wr).alloc o).block g h.lt]; exact h.heap
  · have := h.lt; simp; omega
def fsts (ps : List (Nat × Nat)) : List Nat := ps.map (·.1)
def snds (ps : List (Nat × Nat)) : List Nat := ps.map (·.2)
theorem CRw.done {w wr : World} {v : Value} {ps : List (Nat × Nat)} (h : CRw w wr v ps) : ∃ ao c, v = .slice ao ps.length c ∧ VORow w.heap.size wr.heap.size wr ao ps.length (cvals (fsts ps) (snds ps)) := by
  obtain ⟨g, cap, rfl, h1, h2⟩ := h
  refine ⟨_, cap, rfl, ⟨fun hn => ⟨g, 0, rfl, (World.ownsRow.lt h1 g rfl).2, fun i hi => ?_⟩⟩, fun a ha => ?_⟩
  · have := World.ownsRow.cells h1 rfl i _ (show (cxs ps)[i]? = some (cvals (fsts ps) (snds ps) i) by simp [cxs, cvals, fsts, snds, hi, List.getD_eq_getElem?_getD])
    rw [Nat.zero_add]
    unfold Addr.add at this
    simp at this
    split at this
    · rename_i h0; rw [h0]; rw [h0] at this; exact this
    · exact this
  · cases ha
    rcases h1.2 with ⟨e, _⟩ | ⟨g2, cap2, cur, e, hb, h3, _⟩
    · cases e
    · cases e
      have hl := (Array.getElem?_eq_some_iff.1 h3).1
      exact ⟨hb, hl, hl, cells_free h3⟩
structure RcS (l : List UInt8) (k : Nat) (ps : List (Nat × Nat)) : Prop where
  len : ps.length = k
  is : CSet k (fsts ps) (snds ps) (reX l) (imX l)
theorem RcS.start (l : List UInt8) : RcS l 0 [] := ⟨rfl, fun j h => absurd h (by omega)⟩
theorem RcS.next {l : List UInt8} {k x y : Nat} {ps : List (Nat × Nat)} (h : RcS l k ps) (hx : Is .f32 x (reX l k)) (hy : Is .f32 y (imX l k)) : RcS l (k + 1) (ps ++ [(x, y)]) := by
  have hl := h.len
  refine ⟨by simp [hl], fun j hj => ?_⟩
  have e1 : (fsts ps).length = k := by simp [fsts, hl]
  have e2 : (snds ps).length = k := by simp [snds, hl]
  have f1 : fsts (ps ++ [(x, y)]) = fsts ps ++ [x] := by simp [fsts]
  have f2 : snds (ps ++ [(x, y)]) = snds ps ++ [y] := by simp [snds]
  rw [f1, f2]
  by_cases hlt : j < k
  · have := h.is j hlt
    rw [List.getD_eq_getElem?_getD, List.getD_eq_getElem?_getD] at this ⊢
    rw [List.getElem?_append_left (by omega), List.getElem?_append_left (by omega)]
    exact this
  · obtain rfl : j = k := by omega
    rw [List.getD_eq_getElem?_getD, List.getD_eq_getElem?_getD, List.getElem?_append_right (by omega), List.getElem?_append_right (by omega), e1, e2, Nat.sub_self]
    exact ⟨hx, hy⟩
/-- the complex numbers whose text a text is -/
def RCRet (l : List UInt8) (w : World) (e : Ending) (w' : World) : Prop := ∃ xs ys ao c, e = .returned (.tuple #[.slice ao (rcN l) c, .bool (rcB l)]) ∧ VORow w.heap.size w'.heap.size w' ao (rcN l) (cvals xs ys) ∧ CSet (rcN l) xs ys (reX l) (imX l) ∧ Bel w w'
theorem RCRet.no {l : List UInt8} {w w' : World} (h : rcB l = false) (hb : Bel w w') : RCRet l w (.returned (.tuple #[.slice none 0 0, .bool false])) w' := by
  have e : rcN l = 0 := by unfold rcN; rw [h]; rfl
  refine ⟨[], [], none, 0, by rw [e, h], ?_, fun j hj => absurd hj (by omega), hb⟩
  rw [e]; exact VORow.nil _ _ _ _
theorem RCRet.yes {l : List UInt8} {w w' : World} {v : Value} {k : Nat} {ps : List (Nat × Nat)} (h : rcB l = true) (hk : rcN l = k) (hI : CRw w w' v ps) (hS : RcS l k ps) : RCRet l w (.returned (.tuple #[v, .bool true])) w' := by
  have hl := hS.len
  obtain ⟨ao, c, rfl, hO⟩ := hI.done
  obtain ⟨_, _, _, _, hb⟩ := hI
  subst hk
  rw [hl] at hO ⊢
  exact ⟨_, _, ao, c, by rw [h], hO, hS.is, hb⟩
/-- what a reading of eight digits gives, the world as it was -/
def LDRet (l : List UInt8) (w : World) (e : Ending) (w' : World) : Prop := ∃ r X, e = .returned (.tuple #[.float .f32 r, .bool (hexB l)]) ∧ Is .f32 r X ∧ (hexB l = true → X = valH l) ∧ w = w'
theorem len_lo8 {q : List UInt8} (h : q.length = 16) : (lo8 q).length = 8 := by simp [lo8, h]
theorem len_hi8 {q : List UInt8} (h : q.length = 16) : (hi8 q).length = 8 := by simp [hi8, h]
theorem cut_lo {q : List UInt8} (h : q.length = 16) : (⟨q.toArray⟩ : ByteArray).extract 0 8 = ⟨(lo8 q).toArray⟩ := by rw [extract_at, List.drop_zero]
theorem cut_hi {q : List UInt8} (h : q.length = 16) : (⟨q.toArray⟩ : ByteArray).extract 8 16 = ⟨(hi8 q).toArray⟩ := by rw [extract_at, List.take_of_length_le (by omega)]
end Go.Proofs.YtianaalokclklaaGreatDoor
end

/-
  THE LAW 'FnExactReadComplex': complex numbers read, the program's; the law's walk.
-/
section
set_option linter.unusedSimpArgs false
set_option linter.unusedVariables false
namespace Go.Proofs.YtianaalokclklaaGreatDoor
open Go.RowKit Go.Fl

set_option maxRecDepth 100000 in
set_option maxHeartbeats 4000000 in
theorem iReadComplex_any (w : World) (l : List UInt8) (hl : l.length ≤ 1048576) (he : Errs w) (ht : Tz w) (hM : MaxL w) : Calls Tryz.prog 18 #[.string ⟨l.toArray⟩] w (RCRet l w) := by
  obtain ⟨i0, hi0, hz0, hz1, hz2⟩ := info_parts infoC64
  have hF := Lib.hid (show Errs w ∧ Tz w from ⟨he, ht⟩)
  have hM1 := Lib.hid hM
  clear he ht hM
  cases hq : noneB l with
  | true =>
    have hb := Lib.hid (show rcB l = true by unfold rcB; rw [hq]; rfl)
    have hN := Lib.hid (show rcN l = 0 by unfold rcN; rw [hq, Bool.not_true, Bool.and_false]; rfl)
    obtain rfl : l = [110, 111, 110, 101] := by unfold noneB at hq; simpa using hq
    clear hq
    go_enter Tryz.func18, Tryz.ntmps18
    go_wp2_with fail
    refine (apart_none _).mono ?_
    rintro e w1 ⟨rfl, rfl⟩
    go_wp2_with fail
    refine wp_loop_rounds 1 ?_
    rw [rounds_succ]
    go_wp2_with fail
    refine bodyPost_ret (v := .tuple #[.slice (some ⟨w.heap.size, 0, none⟩) 0 0, .bool true]) (by simp [results, Tryz.results18, go_sem]) rfl ?_
    exact RCRet.yes (k := 0) (ps := []) hb.out hN.out (CRw.start w w (Bel.refl _)) (RcS.start _)
  | false =>
    obtain ⟨N, hN⟩ : ∃ N, N = (pcs l).length := ⟨_, rfl⟩
    have hP := Lib.hid (piece_len l)
    have hl' := Lib.hid hl
    have hNl : N ≤ 1048577 := by rw [hN]; exact Nat.le_trans (pc_len 44 l []) (by omega)
    have hrd := Lib.hid (show rcB l = (decide (N ≤ 256) && allB (fun i => hexC (pieceN l i)) N) by unfold rcB; rw [hq, ← hN]; rfl)
    have hrn := Lib.hid (show rcB l = true → rcN l = N from fun e => by unfold rcN; rw [e, hq, ← hN]; rfl)
    replace hq := Lib.hid hq
    have hN1 : 1 ≤ N := by
      rw [hN]
      cases h : pcs l with
      | nil => exact absurd h (pc_ne 44 l [])
      | cons _ _ => simp
    replace hN := Lib.hid hN
    obtain ⟨B, hB⟩ : ∃ B, B = decide (N ≤ 256) := ⟨_, rfl⟩
    rw [← hB] at hrd
    have hB' := Lib.hid hB
    clear hB
    go_enter Tryz.func18, Tryz.ntmps18
    go_wp2_with fail
    refine (apart_any _ l hl'.out hM1.out hq.out).mono ?_
    rintro e w1 ⟨g5, cs, rfl, hPB, hB1⟩
    rw [← hN.out] at hPB
    rw [← hN.out, ← hB'.out]
    have hI := Lib.hid (CRw.start w w1 hB1)
    replace hPB := Lib.hid (hPB.bel ((Bel.refl w1).alloc (.cells #[] 24)))
    clear hB1
    cases B with
    | false =>
      have hno := Lib.hid (show rcB l = false by rw [hrd.out, Bool.false_and])
      go_wp2_with fail
      go_loopw [6, 21] (fun v iv wr => v = .slice (some ⟨w1.heap.size, 0, none⟩) 0 0 ∧ iv = .int .i64 0 ∧ Hid (CRw w wr v []) ∧ Hid (PBlk wr g5 N (pieceN l) cs)) (fun _ iv _ => 0)
      case atStart => exact ⟨rfl, rfl, hI, hPB⟩
      case round =>
        obtain ⟨rfl, rfl, hS, hPk⟩ := hrel
        have h1 := hPk.out.cell (j := 0) (by omega)
        go_wp2_with fail
        refine bodyPost_ret (v := .tuple #[.slice none 0 0, .bool false]) (by simp [results, Tryz.results18, go_sem]) rfl ?_
        obtain ⟨_, _, _, _, hb⟩ := hS.out
        exact RCRet.no hno.out hb
    | true =>
      have hN256 : N ≤ 256 := by have := hB'.out; simpa using this.symm
      go_wp2_with fail
      go_loopw [6, 21] (fun v iv wr => ∃ (k : Nat) (ps : List (Nat × Nat)), k ≤ N ∧ iv = .int .i64 (k : Int) ∧ Hid (allB (fun i => hexC (pieceN l i)) k = true) ∧ Hid (RcS l k ps) ∧ Hid (CRw w wr v ps) ∧ Hid (PBlk wr g5 N (pieceN l) cs)) (fun _ iv _ => N - (intOf iv).toNat)
      case atStart => exact ⟨0, [], Nat.zero_le _, rfl, Lib.hid rfl, Lib.hid (RcS.start l), hI, hPB⟩
      case round =>
        obtain ⟨k, ps, hk, rfl, hs, hR, hS, hPk⟩ := hrel
        have hlen := hR.out.len
        obtain ⟨g, cap, rfl, hown, hbel⟩ := hS.out
        by_cases hlt : k < N
        · have h1 := hPk.out.cell hlt
          have hbel' := Lib.hid hbel
          have hF1 := Lib.hid (show Errs wr ∧ Tz wr from ⟨errs_bel hF.out.1 hbel, tz_bel hF.out.2 hbel⟩)
          clear hown hbel
          obtain ⟨q, hq'⟩ : ∃ q, q = pieceN l k := ⟨_, rfl⟩
          rw [← hq'] at h1
          have hqs := size_at q
          obtain ⟨m, hm⟩ : ∃ m, m = q.length := ⟨_, rfl⟩
          have hm2 : m ≤ 1048576 := by rw [hm, hq']; have := hP.out k; have := hl'.out; omega
          rw [← hm] at hqs
          by_cases h8 : m = 16
          · subst h8
            have hq8 := Lib.hid hm.symm
            have hval := Lib.hid (show hexC (pieceN l k) = (hexB (lo8 q) && hexB (hi8 q)) by rw [← hq']; exact hexC_of hq8.out)
            have hre := Lib.hid (show reX l k = valH (lo8 q) by rw [hq'])
            have him := Lib.hid (show imX l k = valH (hi8 q) by rw [hq'])
            replace hq' := Lib.hid hq'
            clear hm
            go_wp2_with fail
            rw [cut_lo hq8.out]
            refine (readDigits_any _ _ (by rw [len_lo8 hq8.out]; omega) hF1.out.1 hF1.out.2).mono ?_
            rintro e w2 ⟨r, X, rfl, hr, hX, hB⟩
            have hX' := Lib.hid hX
            have hr' := Lib.hid hr
            have hF2 := Lib.hid (show Errs w2 ∧ Tz w2 from ⟨errs_bel hF1.out.1 hB, tz_bel hF1.out.2 hB⟩)
            replace hS := Lib.hid (hS.out.bel hB)
            replace hPk := Lib.hid (hPk.out.bel hB)
            clear hr hX hB
            obtain ⟨b1, hb1⟩ : ∃ b, b = hexB (lo8 q) := ⟨_, rfl⟩
            rw [← hb1]
            replace hb1 := Lib.hid hb1
            go_wp2_with fail
            rw [cut_hi hq8.out]
            refine (readDigits_any _ _ (by rw [len_hi8 hq8.out]; omega) hF2.out.1 hF2.out.2).mono ?_
            rintro e w3 ⟨s, Y, rfl, hr, hX, hB⟩
            have hY' := Lib.hid hX
            have hs' := Lib.hid hr
            replace hS := Lib.hid (hS.out.bel hB)
            replace hPk := Lib.hid (hPk.out.bel hB)
            clear hr hX hB
            obtain ⟨b2, hb2⟩ : ∃ b, b = hexB (hi8 q) := ⟨_, rfl⟩
            rw [← hb2]
            replace hb2 := Lib.hid hb2
            cases b1 with
            | false =>
              have hno := Lib.hid (show rcB l = false by
                rw [hrd.out, allB_no hlt (by rw [hval.out, ← hb1.out]; rfl), Bool.and_false])
              go_wp2_with fail
              refine bodyPost_ret (v := .tuple #[.slice none 0 0, .bool false]) (by simp [results, Tryz.results18, go_sem]) rfl ?_
              obtain ⟨_, _, _, _, hb⟩ := hS.out
              exact RCRet.no hno.out hb
            | true =>
              cases b2 with
              | false =>
                have hno := Lib.hid (show rcB l = false by
                  rw [hrd.out, allB_no hlt (by rw [hval.out, ← hb2.out, Bool.and_false]), Bool.and_false])
                go_wp2_with fail
                refine bodyPost_ret (v := .tuple #[.slice none 0 0, .bool false]) (by simp [results, Tryz.results18, go_sem]) rfl ?_
                obtain ⟨_, _, _, _, hb⟩ := hS.out
                exact RCRet.no hno.out hb
              | true =>
                have hs2 := Lib.hid (show allB (fun i => hexC (pieceN l i)) (k + 1) = true from allB_succ hs.out (by rw [hval.out, ← hb1.out, ← hb2.out]; rfl))
                have hR2 := Lib.hid (hR.out.next (x := r) (y := s) (by rw [hre.out, ← hX'.out hb1.out.symm]; exact hr'.out) (by rw [him.out, ← hY'.out hb2.out.symm]; exact hs'.out))
                obtain ⟨_, _, hvv, hown, hbel⟩ := hS.out
                cases hvv
                rw [hlen] at hown
                have hbs := hbel.size
                clear hb1 hb2 hX' hY' hr' hs'
                go_wp2_with (at_builtin; refine wpList_app1 rfl _ _ 25 rfl w.heap.size 24 i0 _ 8 Tryz.underlying25 hi0 hz0 hz1 hz2 rfl (.slice (some ⟨g, 0, none⟩) k cap) k _ rfl hown rfl rfl (by omega) (by unfold maxLen; omega) hbs ?_; intro v2 w4 hown2 hgrow)
                rw [← hlen] at hown2 hgrow
                have hN2 := Lib.hid (hS.out.next hown2 hgrow)
                replace hPk := Lib.hid (hPk.out.nextC hS.out hgrow)
                clear hown2 hgrow
                go_wp2_with fail
                refine ⟨⟨k + 1, ps ++ [(r, s)], by omega, by simp, hs2, hR2, hN2, hPk⟩, ?_⟩
                show N - (((k : Nat) : Int) + 1).toNat < N - ((k : Nat) : Int).toNat
                omega
          · have hno := Lib.hid (show rcB l = false by
              rw [hrd.out, allB_no hlt (by rw [← hq']; exact hexC_len (by omega)), Bool.and_false])
            have h8I : ((m : Int) == 16) = false := by simp; omega
            have h8J : ((m : Int) != 16) = true := by simp; omega
            replace hm := Lib.hid hm
            replace hq' := Lib.hid hq'
            go_wp2_with fail
            refine bodyPost_ret (v := .tuple #[.slice none 0 0, .bool false]) (by simp [results, Tryz.results18, go_sem]) rfl ?_
            exact RCRet.no hno.out hbel'.out
        · obtain rfl : k = N := by omega
          have hyes := Lib.hid (show rcB l = true by rw [hrd.out, hs.out]; rfl)
          clear hown
          go_wp2_with fail
          refine bodyPost_ret (v := .tuple #[.slice (some ⟨g, 0, none⟩) ps.length cap, .bool true]) (by simp [results, Tryz.results18, go_sem]) rfl ?_
          exact RCRet.yes hyes.out (hrn.out hyes.out) hS.out hR.out
end Go.Proofs.YtianaalokclklaaGreatDoor
end

/-
  A ROW OF THE CALL's OWN THAT IS WRITTEN NUMBER BY NUMBER; A ROW THAT IS COPIED. (No program here.)
-/
section
set_option linter.unusedVariables false
set_option linter.unusedSimpArgs false
namespace Go.Fl
open Go Ieee Go.RowKit

theorem orow_of_own {w : World} {base : Nat} {E : TypeId} {v : Value} {n : Nat} {ws : List Nat} (h : w.ownsRow base E 1 v n (ws.map (Value.float .f32))) (hn : 0 < n) (hwf : ∀ i, i < n → ws.getD i 0 < 4294967296) :
    ∃ g cap, v = .slice (some ⟨g, 0, none⟩) n cap ∧ ORow base w.heap.size w (some ⟨g, 0, none⟩) n ws := by
  obtain ⟨h0, h1⟩ := h
  have hlen : ws.length = n := by simpa using h0
  rcases h1 with ⟨_, e⟩ | ⟨g, cap, cur, rfl, h2, h3, h4, h5, h6, h7⟩
  · omega
  · have hlt : g < w.heap.size := (Array.getElem?_eq_some_iff.1 h3).1
    have hown : w.ownsRow base E 1 (.slice (some ⟨g, 0, none⟩) n cap) n (ws.map (Value.float .f32)) := ⟨h0, .inr ⟨g, cap, cur, rfl, h2, h3, h4, h5, h6, h7⟩⟩
    refine ⟨g, cap, rfl, ⟨hlen, fun _ => ⟨g, 0, rfl, hlt, fun i hi => ?_⟩, hwf⟩, fun a ha => by cases ha; exact ⟨h2, hlt, hlt, fun j => cells_free h3 j⟩⟩
    rw [Nat.zero_add, World.ownsRow.cellAt hown i (by omega)]
    simp [List.getD, hlen, hi]
/-- an empty slice in a block of its own -/
def New0 (E : TypeId) (W : World) : Rk.KSet := fun w u => ∃ b, u = .slice (some ⟨b, 0, none⟩) 0 0 ∧ W.heap.size ≤ b ∧ w.heap[b]? = some (.cells #[] E (0, 0))
theorem mon_new0 (E : TypeId) (W : World) : Rk.Mon Bel (New0 E W) := fun w w' u hb ⟨b, h1, h2, h3⟩ => ⟨b, h1, h2, by rw [hb.block b (Array.getElem?_eq_some_iff.1 h3).1]; exact h3⟩
section
open Rk
variable {P : Program} {ops : Array Oper} {W : World} {Q : Known → Prop} {rest : List Oper} {A : Known} {dst : Option Tmp} {ty : TypeId} {pos : String} {after : Array Edge} {guard : Option (Nat × Bool)}
theorem wpR_new0 {t E : TypeId} (hy : Rk.Yes ops A ⟨dst, .buildSlice t 0 #[], ty, pos, after, guard⟩)
    (hrun : ∀ (ρ : Operand → Value) (w : World), (execOp ρ ⟨dst, .buildSlice t 0 #[], ty, pos, after, guard⟩).run P w = .ok (.value (.slice (some ⟨w.heap.size, 0, none⟩) 0 0)) (w.alloc (.cells #[] E (0, 0))))
    (h : wpR P ops Bel W Q rest (upd A dst (New0 E W))) : wpR P ops Bel W Q (⟨dst, .buildSlice t 0 #[], ty, pos, after, guard⟩ :: rest) A := by
  refine ⟨_, mon_new0 E W, gives_run hy fun w hw a ha => ?_, h⟩
  exact ⟨_, _, hrun a.eval w, (Bel.refl w).alloc _, w.heap.size, rfl, hw.size, heap_alloc_new w _⟩
end
theorem own_new0 {w : World} {b base : Nat} {E : TypeId} (h : w.heap[b]? = some (.cells #[] E (0, 0))) (hb : base ≤ b) : w.ownsRow base E 1 (.slice (some ⟨b, 0, none⟩) 0 0) 0 [] :=
  ⟨by simp, .inr ⟨b, 0, #[], rfl, hb, h, Nat.le_refl _, by unfold maxLen; omega, rfl, by simp⟩⟩
/-- the numbers of a row, as they are appended -/
theorem frow_news {w : World} {b off n : Nat} {xs : List Nat} (h : FRow w (some ⟨b, off, none⟩) n xs) : ∀ j u, (xs.map (Value.float .f32))[j]? = some u → w.cell? ((⟨b, off, none⟩ : Addr).add j) = some u := by
  intro j u hu
  have hl := h.len
  rw [List.getElem?_map] at hu
  cases hx : xs[j]? with
  | none => rw [hx] at hu; cases hu
  | some x =>
    rw [hx] at hu
    cases hu
    have hj : j < n := by rw [← hl]; exact (List.getElem?_eq_some_iff.1 hx).1
    obtain ⟨b', off', e1, _, e3⟩ := h.at0 (by omega)
    cases e1
    have hadd : (⟨b, off, none⟩ : Addr).add j = ⟨b, off + j, none⟩ := by unfold Addr.add; split <;> simp_all
    rw [hadd, e3 j hj, List.getD_eq_getElem?_getD, hx]; rfl

/-- a row that has been made in a block of its own -/
def NewRow (E : TypeId) (W : World) (n : Nat) (xs : List Nat) : Rk.KSet := fun w u => w.ownsRow W.heap.size E 1 u n (xs.map (Value.float .f32))
theorem mon_newRow (E : TypeId) (W : World) (n : Nat) (xs : List Nat) : Rk.Mon Bel (NewRow E W n xs) := fun w w' u hb h => own_belx h (.of (bs := none) hb) (by simp)
section
open Rk
variable {P : Program} {ops : Array Oper} {W : World} {Q : Known → Prop} {rest : List Oper} {A : Known} {dst : Option Tmp} {ty : TypeId} {pos : String} {after : Array Edge} {guard : Option (Nat × Bool)} {x y : Operand} {t : TypeId}
theorem wpR_appGrow {E : TypeId} {i : TypeInfo} {z : Value} {W0 : World} {bo off n c : Nat} {xs : List Nat} (ht : P.underlying t = some (.slice E)) (hi : P.info? E = some i) (hz : i.zero = some z) (hsize : i.size = 1) (hby : i.bytes = 4) (hzs : z.cells.size = 1)
    (hA : FRow W (some ⟨bo, off, none⟩) n xs) (hn : 0 < n) (hm : n ≤ 1048576)
    (hy : Rk.Yes ops A ⟨dst, .call { callee := .builtin .append, args := #[x, y], argTypes := #[t, t] }, ty, pos, after, guard⟩)
    (hS : slotS A x = New0 E W0) (hT : slotS A y = Is1 (.slice (some ⟨bo, off, none⟩) n c)) (h : wpR P ops Bel W Q rest (upd A dst (NewRow E W n xs))) :
    wpR P ops Bel W Q (⟨dst, .call { callee := .builtin .append, args := #[x, y], argTypes := #[t, t] }, ty, pos, after, guard⟩ :: rest) A := by
  refine ⟨_, mon_newRow E W n xs, gives_run hy fun w hw a ha => ?_, h⟩
  have e1 := fits_eval ha x (looks_op (by simp [Op.operands, Call.operands]))
  have e2 := fits_eval ha y (looks_op (by simp [Op.operands, Call.operands]))
  rw [hS] at e1
  rw [hT] at e2
  obtain ⟨b, hs, _, hb⟩ := e1
  have hx : a.eval y = .slice (some ⟨bo, off, none⟩) n c := e2
  have hlen := hA.len
  obtain ⟨v', w', hrun, r1, r2⟩ := run_append_arg_grows (P := P) w t ty E i z 1 4 ht hi hz hsize hby hzs (by omega) ⟨b, 0, none⟩ 0 0 [] (by simp) (by simp) ⟨bo, off, none⟩ n c (xs.map (Value.float .f32)) (by simp [hlen]) (frow_news (hA.bel hw)) (by omega) (by unfold maxLen; omega) (by omega)
  refine ⟨v', w', ?_, ⟨r2.os, r2.tape, r2.output, r2.size, fun k hk => r2.block k hk (by simp)⟩, ?_⟩
  · simp [execOp, resolve, invoke, builtin, hs, hx, hrun, Result.andThen]
  · have hwl := hw.size
    have r1' : w'.ownsRow w.heap.size E 1 v' n (xs.map (Value.float .f32)) := by simpa using r1
    refine ⟨r1'.1, r1'.2.imp id ?_⟩
    rintro ⟨g, cap, cur, h1, h2, h3⟩
    exact ⟨g, cap, cur, h1, Nat.le_trans hwl h2, h3⟩
end
theorem BelX.setCell {bs : Option Nat} {w w' : World} (h : BelX bs w w') {p : Addr} (hp : some p.block = bs ∨ w.heap.size ≤ p.block) (v : Value) : BelX bs w (w'.setCell p v) := by
  refine ⟨h.os, h.tape, h.output, by simpa [World.setCell] using h.size, fun j hj hne => ?_⟩
  rw [heap_setOther ?_, h.block j hj hne]
  intro e
  rcases hp with hp | hp
  · exact hne (by rw [← hp, e])
  · omega
theorem FRow.belx {bs : Option Nat} {w w' : World} {ao : Option Addr} {n : Nat} {xs : List Nat} (h : FRow w ao n xs) (hX : BelX bs w w') (hne : ∀ a, ao = some a → some a.block ≠ bs) : FRow w' ao n xs := by
  refine ⟨h.len, fun hn => ?_, h.wf⟩
  obtain ⟨b, off, rfl, h2, h3⟩ := h.at0 hn
  refine ⟨b, off, rfl, Nat.lt_of_lt_of_le h2 hX.size, fun i hi => ?_⟩
  rw [hX.cell (p := ⟨b, off + i, none⟩) h2 (hne ⟨b, off, none⟩ rfl)]; exact h3 i hi
theorem ORow.setAt {lo hi b off : Nat} {w : World} {n i r : Nat} {ys : List Nat} (h : ORow lo hi w (some ⟨b, off, none⟩) n ys) (hi' : i < n) (hr : r < 4294967296) : ORow lo hi (w.setCell ⟨b, off + i, none⟩ (.float .f32 r)) (some ⟨b, off, none⟩) n (ys.set i r) := by
  obtain ⟨b', off', e1, h2, h3⟩ := h.row.at0 (by omega)
  cases e1
  have hl := h.row.len
  have hg : ∀ j, j < n → (ys.set i r).getD j 0 = if i = j then r else ys.getD j 0 := by
    intro j hj
    rw [List.getD_eq_getElem?_getD, List.getElem?_set]
    by_cases e : i = j
    · subst e; simp [hl, hj]
    · simp [e]
  obtain ⟨g1, g2, g3, g4⟩ := h.own _ rfl
  refine ⟨⟨by simp [hl], fun _ => ⟨b, off, rfl, by simpa [World.setCell] using h2, fun j hj => ?_⟩, fun j hj => ?_⟩, fun a ha => by cases ha; exact ⟨g1, g2, by simpa [World.setCell] using g3, fun j => by rw [World.frozen?_setCell]; exact g4 j⟩⟩
  · rw [hg j hj]
    by_cases e : i = j
    · subst e; rw [if_pos rfl, World.cell?_setCell_same _ _ _ (h3 i hj)]
    · rw [if_neg e, World.cell?_setCell_other _ _ _ _ (by intro he; injection he with h1 h2 h3; omega)]; exact h3 j hj
  · rw [hg j hj]
    split
    · exact hr
    · exact h.row.wf j hj

/-- the first 'i' of 'n' numbers of a row have been written -/
structure SSt (w0 : World) (lo hi b off : Nat) (F : Nat → Nat) (xs : List Nat) (n i : Nat) (wr : World) (ys : List Nat) : Prop where
  bel : BelX (some b) w0 wr
  row : ORow lo hi wr (some ⟨b, off, none⟩) n ys
  done : ∀ j, j < i → Is .f32 (ys.getD j 0) (F j)
  left : ∀ j, i ≤ j → j < n → ys.getD j 0 = xs.getD j 0
variable {w0 wr : World} {lo hi b off : Nat} {F : Nat → Nat} {xs ys : List Nat} {n i : Nat}
theorem SSt.start (h : ORow lo hi w0 (some ⟨b, off, none⟩) n xs) : SSt w0 lo hi b off F xs n 0 w0 xs := ⟨BelX.refl _ _, h, fun j hj => absurd hj (by omega), fun _ _ _ => rfl⟩
theorem SSt.next (h : SSt w0 lo hi b off F xs n i wr ys) (hi' : i < n) {wK : World} (hK : Bel wr wK) {r : Nat} (hr : Is .f32 r (F i)) : SSt w0 lo hi b off F xs n (i + 1) (wK.setCell ⟨b, off + i, none⟩ (.float .f32 r)) (ys.set i r) := by
  have hl := h.row.row.len
  refine ⟨(h.bel.trans (.of hK)).setCell (.inl rfl) _, (h.row.bel hK).setAt hi' (by have := hr.1; rw [w32] at this; exact this), fun j hj => ?_, fun j h1 h2 => ?_⟩
  · rw [List.getD_eq_getElem?_getD, List.getElem?_set]
    by_cases e : i = j
    · subst e; simp [hl, hi']; exact hr
    · simp only [e, if_false]; exact h.done j (by omega)
  · rw [List.getD_eq_getElem?_getD, List.getElem?_set, if_neg (by omega)]
    exact h.left j (by omega) h2
theorem belx_bel {w w0 w' : World} {b : Nat} (h : Bel w w0) (hX : BelX (some b) w0 w') (hb : w.heap.size ≤ b) : Bel w w' :=
  Below.trans h (hX.below h.size (fun j hj => by cases hj; exact hb))
end Go.Fl
end

/-
  A SOURCE OF CHOICES: a struct of the call's own that is read and written. (No program here.)
-/
section
set_option linter.unusedVariables false
set_option linter.unusedSimpArgs false
namespace Go.Fl
open Go Ieee Go.RowKit

/-- the bytes of a source -/
structure SCx where
  ao : Option Addr
  n : Nat
  c : Nat
  z : Nat → Int
/-- the struct lies in block 'g' -/
structure SrcS (w : World) (g : Nat) (X : SCx) (a s : Nat) : Prop where
  lt : g < w.heap.size
  c0 : w.cell? ⟨g, 0, none⟩ = some (.slice X.ao X.n X.c)
  c1 : w.cell? ⟨g, 1, none⟩ = some (.int .i64 (a : Int))
  c2 : w.cell? ⟨g, 2, none⟩ = some (.int .u64 (s : Int))
  thaw : ∀ j, w.frozen? ⟨g, j, none⟩ = false
  su : s ≤ 18446744073709551615
  row : IRow .u8 w X.ao X.n X.z
  rlt : 0 < X.n → ∀ p, X.ao = some p → p.block < g
  len : X.n ≤ 1048576
theorem SrcS.far {w : World} {g : Nat} {X : SCx} {a s : Nat} (h : SrcS w g X a s) : 0 < X.n → ∀ p, X.ao = some p → p.block ≠ g := fun hn p hp => by have := h.rlt hn p hp; omega
theorem IRow.setOther {k : IntKind} {w : World} {ao : Option Addr} {n : Nat} {z : Nat → Int} (h : IRow k w ao n z) {p : Addr} (hp : 0 < n → ∀ a, ao = some a → a.block ≠ p.block) (v : Value) : IRow k (w.setCell p v) ao n z := by
  refine ⟨fun hn => ?_, h.wf⟩
  obtain ⟨b, off, h1, h2, h3⟩ := h.at0 hn
  refine ⟨b, off, h1, by simpa [World.setCell] using h2, fun i hi => ?_⟩
  rw [World.cell?_setCell_other _ _ _ _ (by intro he; exact hp hn _ h1 (by rw [he]))]
  exact h3 i hi
theorem SrcS.bel {w w' : World} {g : Nat} {X : SCx} {a s : Nat} (h : SrcS w g X a s) (hb : Bel w w') : SrcS w' g X a s :=
  ⟨Nat.lt_of_lt_of_le h.lt hb.size, (hb.cell (p := ⟨g, 0, none⟩) h.lt).trans h.c0, (hb.cell (p := ⟨g, 1, none⟩) h.lt).trans h.c1, (hb.cell (p := ⟨g, 2, none⟩) h.lt).trans h.c2,
    fun j => (hb.frozen (p := ⟨g, j, none⟩) h.lt).trans (h.thaw j), h.su, h.row.bel hb, h.rlt, h.len⟩
theorem SrcS.put1 {w : World} {g : Nat} {X : SCx} {a s : Nat} (h : SrcS w g X a s) : SrcS (w.setCell ⟨g, 1, none⟩ (.int .i64 ((a : Int) + 1))) g X (a + 1) s :=
  ⟨by simpa [World.setCell] using h.lt, by rw [World.cell?_setCell_other _ _ _ _ (by simp)]; exact h.c0, by rw [World.cell?_setCell_same _ _ _ h.c1]; simp, by rw [World.cell?_setCell_other _ _ _ _ (by simp)]; exact h.c2,
    fun j => by rw [World.frozen?_setCell]; exact h.thaw j, h.su, h.row.setOther (p := ⟨g, 1, none⟩) h.far _, h.rlt, h.len⟩
theorem SrcS.put2 {w : World} {g : Nat} {X : SCx} {a s t : Nat} (h : SrcS w g X a s) (ht : t ≤ 18446744073709551615) : SrcS (w.setCell ⟨g, 2, none⟩ (.int .u64 (t : Int))) g X a t :=
  ⟨by simpa [World.setCell] using h.lt, by rw [World.cell?_setCell_other _ _ _ _ (by simp)]; exact h.c0, by rw [World.cell?_setCell_other _ _ _ _ (by simp)]; exact h.c1, by rw [World.cell?_setCell_same _ _ _ h.c2],
    fun j => by rw [World.frozen?_setCell]; exact h.thaw j, ht, h.row.setOther (p := ⟨g, 2, none⟩) h.far _, h.rlt, h.len⟩
theorem SrcS.new {w : World} {X : SCx} (T : TypeId) (hr : IRow .u8 w X.ao X.n X.z) (hl : X.n ≤ 1048576) :
    SrcS (w.alloc (.cells #[.slice X.ao X.n X.c, .int .i64 0, .int .u64 0] T)) w.heap.size X 0 0 := by
  refine ⟨by simp, ?_, ?_, ?_, fun j => ?_, by omega, hr.alloc _, fun hn p hp => by obtain ⟨b, off, h1, h2, _⟩ := hr.at0 hn; rw [h1] at hp; cases hp; exact h2, hl⟩
  · rw [World.cell?_alloc_at _ _ _ _ rfl]; rfl
  · rw [World.cell?_alloc_at _ _ _ _ rfl]; rfl
  · rw [World.cell?_alloc_at _ _ _ _ rfl]; rfl
  · rw [frozen?_alloc_cells]; unfold World.frozen?; simp
theorem SrcS.below {w w' : World} {g B : Nat} {X : SCx} {a s : Nat} (h : SrcS w g X a s) (hg : g < B) (hb : Below B w w') : SrcS w' g X a s :=
  ⟨Nat.lt_of_lt_of_le h.lt hb.size, (hb.cell (p := ⟨g, 0, none⟩) hg).trans h.c0, (hb.cell (p := ⟨g, 1, none⟩) hg).trans h.c1, (hb.cell (p := ⟨g, 2, none⟩) hg).trans h.c2,
    fun j => (hb.frozen (p := ⟨g, j, none⟩) hg).trans (h.thaw j), h.su,
    ⟨fun hn => by
      obtain ⟨b, off, h1, h2, h3⟩ := h.row.at0 hn
      have h4 := h.rlt hn _ h1
      have h4' : b < g := h4
      exact ⟨b, off, h1, Nat.lt_of_lt_of_le h2 hb.size, fun i hi => (hb.cell (p := ⟨b, off + i, none⟩) (show b < B by omega)).trans (h3 i hi)⟩, h.row.wf⟩, h.rlt, h.len⟩
theorem BelX.below' {bs : Option Nat} {w wr w2 : World} (h : BelX bs w wr) (hb : Below w.heap.size wr w2) : BelX bs w w2 :=
  ⟨hb.os.trans h.os, hb.tape.trans h.tape, hb.output.trans h.output, Nat.le_trans h.size hb.size, fun j hj hne => (hb.block j hj).trans (h.block j hj hne)⟩
/-- a source of which at most 'k' bytes are taken -/
def Src (w : World) (g : Nat) (X : SCx) (k : Nat) : Prop := ∃ a s, a ≤ k ∧ SrcS w g X a s
theorem Src.bel {w w' : World} {g : Nat} {X : SCx} {k : Nat} (h : Src w g X k) (hb : Bel w w') : Src w' g X k := by
  obtain ⟨a, s, h1, h2⟩ := h
  exact ⟨a, s, h1, h2.bel hb⟩
theorem Src.mono {w : World} {g : Nat} {X : SCx} {k j : Nat} (h : Src w g X k) (hk : k ≤ j) : Src w g X j := by
  obtain ⟨a, s, h1, h2⟩ := h
  exact ⟨a, s, by omega, h2⟩
theorem Src.below {w w' : World} {g B : Nat} {X : SCx} {k : Nat} (h : Src w g X k) (hg : g < B) (hb : Below B w w') : Src w' g X k := by
  obtain ⟨a, s, h1, h2⟩ := h
  exact ⟨a, s, h1, h2.below hg hb⟩
/-- what a call has done that took bytes of a source -/
def TkRet (V : Value → Prop) (g : Nat) (X : SCx) (k : Nat) (w : World) (e : Ending) (w' : World) : Prop := ∃ v, e = .returned v ∧ V v ∧ Src w' g X k ∧ BelX (some g) w w'
def IsLt (m : Nat) : Value → Prop := fun v => ∃ x : Nat, v = .int .i64 (x : Int) ∧ x < m
def IsFl : Value → Prop := fun v => ∃ r X : Nat, v = .float .f32 r ∧ Is .f32 r X
def IsBo : Value → Prop := fun v => ∃ b, v = .bool b
end Go.Fl
end

/-
  CONTRACTS: choices out of bytes; numbers drawn.
-/
section
set_option linter.unusedSimpArgs false
set_option linter.unusedVariables false
namespace Go.Proofs.YtianaalokclklaaGreatDoor
open Go.RowKit Go.Fl

theorem l00From_any (w : World) (ao : Option Addr) (n c : Nat) (z : Nat → Int) (hA : IRow .u8 w ao n z) (hn : n ≤ 1048576) :
    Calls Tryz.prog 38 #[.slice ao n c] w (fun e w' => e = .returned (.pointer (some ⟨w.heap.size, 0, none⟩)) ∧ Src w' w.heap.size ⟨ao, n, c, z⟩ 0 ∧ Bel w w') := by
  have hS := Lib.hid (SrcS.new (w := w) (X := ⟨ao, n, c, z⟩) 88 hA hn)
  clear hA
  go_enter Tryz.func38, Tryz.ntmps38
  go_wp2_with fail
  go_ret
  exact ⟨rfl, ⟨0, 0, Nat.le_refl _, hS.out⟩, (Bel.refl w).alloc _⟩
theorem u64_shr_and (M : Nat) : bits .and .u64 ((M : Int) / 1099511627776) 255 = ((M / 1099511627776 % 256 : Nat) : Int) := by
  have h15 : (BitVec.ofInt 64 255).toNat = 2 ^ 8 - 1 := by decide
  have key : (BitVec.ofInt 64 ((M : Int) / 1099511627776) &&& BitVec.ofInt 64 255).toNat = (((M : Int) / 1099511627776) % ((2 ^ 64 : Nat) : Int)).toNat % 2 ^ 8 := by
    rw [BitVec.toNat_and, BitVec.toNat_ofInt, h15, Nat.and_two_pow_sub_one_eq_mod]
  show IntKind.u64.wrap ((BitVec.ofInt 64 ((M : Int) / 1099511627776) &&& BitVec.ofInt 64 255).toNat : Nat) = _
  rw [key, IntKind.wrap_u64]
  omega
set_option maxRecDepth 100000 in
set_option maxHeartbeats 2000000 in
theorem next_any (w : World) (g : Nat) (X : SCx) (a s : Nat) (hS : SrcS w g X a s) (ha : a ≤ 1000000) :
    Calls Tryz.prog 69 #[.pointer (some ⟨g, 0, none⟩)] w (TkRet (IsLt 256) g X (a + 1) w) := by
  obtain ⟨ao, n, c, z⟩ := X
  have hn : n ≤ 1048576 := hS.len
  have hS0 := Lib.hid hS
  clear hS
  by_cases hlt : a < n
  · obtain ⟨b, off, h0, hb, hcell⟩ := hS0.out.row.at0 (show 0 < n by omega)
    replace h0 : ao = some ⟨b, off, none⟩ := h0
    subst h0
    have hz := u8_wf (hS0.out.row.wf a hlt)
    obtain ⟨B, hB⟩ : ∃ B : Nat, z a = (B : Int) := ⟨(z a).toNat, by have := hz.1; show z a = _; rw [Int.toNat_of_nonneg this]⟩
    have hB256 : B < 256 := by have := hz.2; show B < 256; have h3 : z a ≤ 255 := this; omega
    have hbc := Lib.hid (show ∀ w', Bel w w' → w'.cell? ⟨b, off + a, none⟩ = some (.int .u8 (B : Int)) from fun w' h => by
      rw [← hB]
      exact (h.cell (p := ⟨b, off + a, none⟩) hb).trans (hcell a hlt))
    have hwB : IntKind.i64.wrap (B : Int) = (B : Int) := by rw [IntWalk.i64_in _ (by omega)]
    have hwB2 : IntKind.u64.wrap (B : Int) = (B : Int) := by rw [IntKind.wrap_u64]; omega
    clear hcell hz hB
    go_enter Tryz.func69, Tryz.ntmps69
    go_wp2_with fail
    (refine Rk.region_K (Le := Bel) [0, 1, 2, 3, 4, 5, 6, 7, 8, 9] [] Rk.good_bel (by kernel_rfl) (by kernel_rfl) (by kernel_rfl) (by kernel_rfl) ?_; (try simp only [Rk.pick, List.getElem?_cons_succ, List.getElem?_cons_zero, Option.toList_some, List.cons_append, List.nil_append, List.map_cons, List.map_nil]))
    repeat (first | ((with_reducible refine Rk.wpR_move Rk.good_bel (S := ?_) ?_ ?_ ?_ ?_); (first | exact Rk.yes_none | exact Rk.yes_some rfl rfl); rotate_left 2; (simp only [Rk.slotS, List.getD_cons_succ, List.getD_cons_zero]; rfl); rotate_left 1; (first | exact Rk.mon_is1 _ | exact Rk.mon_isF _ _ | assumption); (try simp only [Rk.upd, List.set_cons_succ, List.set_cons_zero])) | ((with_reducible refine Rk.wpR_assign Rk.good_bel (S := ?_) ?_ ?_ ?_ ?_); (first | exact Rk.yes_none | exact Rk.yes_some rfl rfl); rotate_left 2; (simp only [Rk.slotS, List.getD_cons_succ, List.getD_cons_zero]; rfl); rotate_left 1; (first | exact Rk.mon_is1 _ | exact Rk.mon_isF _ _ | assumption); (try simp only [Rk.upd, List.set_cons_succ, List.set_cons_zero])) | ((with_reducible refine Rk.wpR_skip (d := ?_) (c := ?_) ?_ ?_ ?_ ?_); rotate_left 2; rfl; rfl; rfl; (try simp only [Rk.upd, List.set_cons_succ, List.set_cons_zero])) | ((with_reducible refine Rk.wpR_pickT Rk.good_bel (S := ?_) ?_ ?_ ?_ ?_ ?_); (first | exact Rk.yes_none | exact Rk.yes_some rfl rfl); rotate_left 2; rfl; (simp only [Rk.slotS, List.getD_cons_succ, List.getD_cons_zero]; rfl); rotate_left 1; (first | exact Rk.mon_is1 _ | exact Rk.mon_isF _ _ | assumption); (try simp only [Rk.upd, List.set_cons_succ, List.set_cons_zero])) | ((with_reducible refine Rk.wpR_pickF Rk.good_bel (S := ?_) ?_ ?_ ?_ ?_ ?_); (first | exact Rk.yes_none | exact Rk.yes_some rfl rfl); rotate_left 2; rfl; (simp only [Rk.slotS, List.getD_cons_succ, List.getD_cons_zero]; rfl); rotate_left 1; (first | exact Rk.mon_is1 _ | exact Rk.mon_isF _ _ | assumption); (try simp only [Rk.upd, List.set_cons_succ, List.set_cons_zero])) | ((with_reducible refine Rk.wpR_widen Rk.good_bel Tryz.underlying28 Tryz.underlying46 (X := ?_) (S := ?_) ?_ ?_ ?_ ?_); rotate_left 2; (first | exact Rk.yes_none | exact Rk.yes_some rfl rfl); (simp only [Rk.slotS, List.getD_cons_succ, List.getD_cons_zero]; rfl); (first | exact Rk.subF_is _ _ | (refine Rk.subF_eq ?_; (first | assumption | ((refine Is.lit ?_); decide +kernel) | (refine Is.ofInt _ _)))); (try simp only [Rk.upd, List.set_cons_succ, List.set_cons_zero])) | ((with_reducible refine Rk.wpR_fadd Rk.good_bel (k := ?_) (X := ?_) (Y := ?_) (S := ?_) (T := ?_) ?_ ?_ ?_ ?_ ?_ ?_); rotate_left 5; (first | exact Rk.yes_none | exact Rk.yes_some rfl rfl); (simp only [Rk.slotS, List.getD_cons_succ, List.getD_cons_zero]; rfl); (simp only [Rk.slotS, List.getD_cons_succ, List.getD_cons_zero]; rfl); (first | exact Rk.subF_is _ _ | (refine Rk.subF_eq ?_; (first | assumption | ((refine Is.lit ?_); decide +kernel) | (refine Is.ofInt _ _)))); (first | exact Rk.subF_is _ _ | (refine Rk.subF_eq ?_; (first | assumption | ((refine Is.lit ?_); decide +kernel) | (refine Is.ofInt _ _)))); (try simp only [Rk.upd, List.set_cons_succ, List.set_cons_zero])) | ((with_reducible refine Rk.wpR_fsub Rk.good_bel (k := ?_) (X := ?_) (Y := ?_) (S := ?_) (T := ?_) ?_ ?_ ?_ ?_ ?_ ?_); rotate_left 5; (first | exact Rk.yes_none | exact Rk.yes_some rfl rfl); (simp only [Rk.slotS, List.getD_cons_succ, List.getD_cons_zero]; rfl); (simp only [Rk.slotS, List.getD_cons_succ, List.getD_cons_zero]; rfl); (first | exact Rk.subF_is _ _ | (refine Rk.subF_eq ?_; (first | assumption | ((refine Is.lit ?_); decide +kernel) | (refine Is.ofInt _ _)))); (first | exact Rk.subF_is _ _ | (refine Rk.subF_eq ?_; (first | assumption | ((refine Is.lit ?_); decide +kernel) | (refine Is.ofInt _ _)))); (try simp only [Rk.upd, List.set_cons_succ, List.set_cons_zero])) | ((with_reducible refine Rk.wpR_fmul Rk.good_bel (k := ?_) (X := ?_) (Y := ?_) (S := ?_) (T := ?_) ?_ ?_ ?_ ?_ ?_ ?_); rotate_left 5; (first | exact Rk.yes_none | exact Rk.yes_some rfl rfl); (simp only [Rk.slotS, List.getD_cons_succ, List.getD_cons_zero]; rfl); (simp only [Rk.slotS, List.getD_cons_succ, List.getD_cons_zero]; rfl); (first | exact Rk.subF_is _ _ | (refine Rk.subF_eq ?_; (first | assumption | ((refine Is.lit ?_); decide +kernel) | (refine Is.ofInt _ _)))); (first | exact Rk.subF_is _ _ | (refine Rk.subF_eq ?_; (first | assumption | ((refine Is.lit ?_); decide +kernel) | (refine Is.ofInt _ _)))); (try simp only [Rk.upd, List.set_cons_succ, List.set_cons_zero])) | ((with_reducible refine Rk.wpR_fquo Rk.good_bel (k := ?_) (X := ?_) (Y := ?_) (S := ?_) (T := ?_) ?_ ?_ ?_ ?_ ?_ ?_); rotate_left 5; (first | exact Rk.yes_none | exact Rk.yes_some rfl rfl); (simp only [Rk.slotS, List.getD_cons_succ, List.getD_cons_zero]; rfl); (simp only [Rk.slotS, List.getD_cons_succ, List.getD_cons_zero]; rfl); (first | exact Rk.subF_is _ _ | (refine Rk.subF_eq ?_; (first | assumption | ((refine Is.lit ?_); decide +kernel) | (refine Is.ofInt _ _)))); (first | exact Rk.subF_is _ _ | (refine Rk.subF_eq ?_; (first | assumption | ((refine Is.lit ?_); decide +kernel) | (refine Is.ofInt _ _)))); (try simp only [Rk.upd, List.set_cons_succ, List.set_cons_zero])) | ((with_reducible refine Rk.wpR_feq Rk.good_bel (k := ?_) (X := ?_) (Y := ?_) (S := ?_) (T := ?_) ?_ ?_ ?_ ?_ ?_ ?_); rotate_left 5; (first | exact Rk.yes_none | exact Rk.yes_some rfl rfl); (simp only [Rk.slotS, List.getD_cons_succ, List.getD_cons_zero]; rfl); (simp only [Rk.slotS, List.getD_cons_succ, List.getD_cons_zero]; rfl); (first | exact Rk.subF_is _ _ | (refine Rk.subF_eq ?_; (first | assumption | ((refine Is.lit ?_); decide +kernel) | (refine Is.ofInt _ _)))); (first | exact Rk.subF_is _ _ | (refine Rk.subF_eq ?_; (first | assumption | ((refine Is.lit ?_); decide +kernel) | (refine Is.ofInt _ _)))); (try simp only [Rk.upd, List.set_cons_succ, List.set_cons_zero])) | ((with_reducible refine Rk.wpR_fne Rk.good_bel (k := ?_) (X := ?_) (Y := ?_) (S := ?_) (T := ?_) ?_ ?_ ?_ ?_ ?_ ?_); rotate_left 5; (first | exact Rk.yes_none | exact Rk.yes_some rfl rfl); (simp only [Rk.slotS, List.getD_cons_succ, List.getD_cons_zero]; rfl); (simp only [Rk.slotS, List.getD_cons_succ, List.getD_cons_zero]; rfl); (first | exact Rk.subF_is _ _ | (refine Rk.subF_eq ?_; (first | assumption | ((refine Is.lit ?_); decide +kernel) | (refine Is.ofInt _ _)))); (first | exact Rk.subF_is _ _ | (refine Rk.subF_eq ?_; (first | assumption | ((refine Is.lit ?_); decide +kernel) | (refine Is.ofInt _ _)))); (try simp only [Rk.upd, List.set_cons_succ, List.set_cons_zero])) | ((with_reducible refine Rk.wpR_flt Rk.good_bel (k := ?_) (X := ?_) (Y := ?_) (S := ?_) (T := ?_) ?_ ?_ ?_ ?_ ?_ ?_); rotate_left 5; (first | exact Rk.yes_none | exact Rk.yes_some rfl rfl); (simp only [Rk.slotS, List.getD_cons_succ, List.getD_cons_zero]; rfl); (simp only [Rk.slotS, List.getD_cons_succ, List.getD_cons_zero]; rfl); (first | exact Rk.subF_is _ _ | (refine Rk.subF_eq ?_; (first | assumption | ((refine Is.lit ?_); decide +kernel) | (refine Is.ofInt _ _)))); (first | exact Rk.subF_is _ _ | (refine Rk.subF_eq ?_; (first | assumption | ((refine Is.lit ?_); decide +kernel) | (refine Is.ofInt _ _)))); (try simp only [Rk.upd, List.set_cons_succ, List.set_cons_zero])) | ((with_reducible refine Rk.wpR_fgt Rk.good_bel (k := ?_) (X := ?_) (Y := ?_) (S := ?_) (T := ?_) ?_ ?_ ?_ ?_ ?_ ?_); rotate_left 5; (first | exact Rk.yes_none | exact Rk.yes_some rfl rfl); (simp only [Rk.slotS, List.getD_cons_succ, List.getD_cons_zero]; rfl); (simp only [Rk.slotS, List.getD_cons_succ, List.getD_cons_zero]; rfl); (first | exact Rk.subF_is _ _ | (refine Rk.subF_eq ?_; (first | assumption | ((refine Is.lit ?_); decide +kernel) | (refine Is.ofInt _ _)))); (first | exact Rk.subF_is _ _ | (refine Rk.subF_eq ?_; (first | assumption | ((refine Is.lit ?_); decide +kernel) | (refine Is.ofInt _ _)))); (try simp only [Rk.upd, List.set_cons_succ, List.set_cons_zero])) | ((with_reducible refine Rk.wpR_fge Rk.good_bel (k := ?_) (X := ?_) (Y := ?_) (S := ?_) (T := ?_) ?_ ?_ ?_ ?_ ?_ ?_); rotate_left 5; (first | exact Rk.yes_none | exact Rk.yes_some rfl rfl); (simp only [Rk.slotS, List.getD_cons_succ, List.getD_cons_zero]; rfl); (simp only [Rk.slotS, List.getD_cons_succ, List.getD_cons_zero]; rfl); (first | exact Rk.subF_is _ _ | (refine Rk.subF_eq ?_; (first | assumption | ((refine Is.lit ?_); decide +kernel) | (refine Is.ofInt _ _)))); (first | exact Rk.subF_is _ _ | (refine Rk.subF_eq ?_; (first | assumption | ((refine Is.lit ?_); decide +kernel) | (refine Is.ofInt _ _)))); (try simp only [Rk.upd, List.set_cons_succ, List.set_cons_zero])) | ((with_reducible refine Rk.wpR_fle Rk.good_bel (k := ?_) (X := ?_) (Y := ?_) (S := ?_) (T := ?_) ?_ ?_ ?_ ?_ ?_ ?_); rotate_left 5; (first | exact Rk.yes_none | exact Rk.yes_some rfl rfl); (simp only [Rk.slotS, List.getD_cons_succ, List.getD_cons_zero]; rfl); (simp only [Rk.slotS, List.getD_cons_succ, List.getD_cons_zero]; rfl); (first | exact Rk.subF_is _ _ | (refine Rk.subF_eq ?_; (first | assumption | ((refine Is.lit ?_); decide +kernel) | (refine Is.ofInt _ _)))); (first | exact Rk.subF_is _ _ | (refine Rk.subF_eq ?_; (first | assumption | ((refine Is.lit ?_); decide +kernel) | (refine Is.ofInt _ _)))); (try simp only [Rk.upd, List.set_cons_succ, List.set_cons_zero])) | ((with_reducible refine Rk.wpR_indexAddr Rk.good_bel (v := ?_) (v' := ?_) (u := ?_) ?_ ?_ ?_ ?_ ?_); rotate_left 3; (first | exact Rk.yes_none | exact Rk.yes_some rfl rfl); (simp only [Rk.slotS, List.getD_cons_succ, List.getD_cons_zero]; rfl); (simp only [Rk.slotS, List.getD_cons_succ, List.getD_cons_zero]; rfl); (intro ρ w' hw hK1 hK2; go_simp; rfl); (try simp only [Rk.upd, List.set_cons_succ, List.set_cons_zero])) | ((with_reducible refine Rk.wpR_binOp Rk.good_bel (v := ?_) (v' := ?_) (u := ?_) ?_ ?_ ?_ ?_ ?_); rotate_left 3; (first | exact Rk.yes_none | exact Rk.yes_some rfl rfl); (simp only [Rk.slotS, List.getD_cons_succ, List.getD_cons_zero]; rfl); (simp only [Rk.slotS, List.getD_cons_succ, List.getD_cons_zero]; rfl); (intro ρ w' hw hK1 hK2; go_simp; rfl); (try simp only [Rk.upd, List.set_cons_succ, List.set_cons_zero])) | ((with_reducible refine Rk.wpR_load Rk.good_bel (v := ?_) (u := ?_) ?_ ?_ ?_ ?_); rotate_left 2; (first | exact Rk.yes_none | exact Rk.yes_some rfl rfl); (simp only [Rk.slotS, List.getD_cons_succ, List.getD_cons_zero]; rfl); (intro ρ w' hw hK1; have k0 := (hS0.out.bel hw).c0; have k1 := (hS0.out.bel hw).c1; go_simp; rfl); (try simp only [Rk.upd, List.set_cons_succ, List.set_cons_zero])) | ((with_reducible refine Rk.wpR_unOp Rk.good_bel (v := ?_) (u := ?_) ?_ ?_ ?_ ?_); rotate_left 2; (first | exact Rk.yes_none | exact Rk.yes_some rfl rfl); (simp only [Rk.slotS, List.getD_cons_succ, List.getD_cons_zero]; rfl); (intro ρ w' hw hK1; go_simp; rfl); (try simp only [Rk.upd, List.set_cons_succ, List.set_cons_zero])) | ((with_reducible refine Rk.wpR_convert Rk.good_bel (v := ?_) (u := ?_) ?_ ?_ ?_ ?_); rotate_left 2; (first | exact Rk.yes_none | exact Rk.yes_some rfl rfl); (simp only [Rk.slotS, List.getD_cons_succ, List.getD_cons_zero]; rfl); (intro ρ w' hw hK1; go_simp; rfl); (try simp only [Rk.upd, List.set_cons_succ, List.set_cons_zero])) | ((with_reducible refine Rk.wpR_field Rk.good_bel (v := ?_) (u := ?_) ?_ ?_ ?_ ?_); rotate_left 2; (first | exact Rk.yes_none | exact Rk.yes_some rfl rfl); (simp only [Rk.slotS, List.getD_cons_succ, List.getD_cons_zero]; rfl); (intro ρ w' hw hK1; go_simp; rfl); (try simp only [Rk.upd, List.set_cons_succ, List.set_cons_zero])) | ((with_reducible refine Rk.wpR_fieldAddr Rk.good_bel (v := ?_) (u := ?_) ?_ ?_ ?_ ?_); rotate_left 2; (first | exact Rk.yes_none | exact Rk.yes_some rfl rfl); (simp only [Rk.slotS, List.getD_cons_succ, List.getD_cons_zero]; rfl); (intro ρ w' hw hK1; go_simp; rfl); (try simp only [Rk.upd, List.set_cons_succ, List.set_cons_zero])) | ((with_reducible refine Rk.wpR_nilCheck Rk.good_bel (v := ?_) (u := ?_) ?_ ?_ ?_ ?_); rotate_left 2; (first | exact Rk.yes_none | exact Rk.yes_some rfl rfl); (simp only [Rk.slotS, List.getD_cons_succ, List.getD_cons_zero]; rfl); (intro ρ w' hw hK1; go_simp; rfl); (try simp only [Rk.upd, List.set_cons_succ, List.set_cons_zero])) | ((with_reducible refine Rk.wpR_builtin1 Rk.good_bel (v := ?_) (u := ?_) ?_ ?_ ?_ ?_); rotate_left 2; (first | exact Rk.yes_none | exact Rk.yes_some rfl rfl); (simp only [Rk.slotS, List.getD_cons_succ, List.getD_cons_zero]; rfl); (intro ρ w' hw hK1; go_simp; rfl); (try simp only [Rk.upd, List.set_cons_succ, List.set_cons_zero])) | ((with_reducible refine Rk.wpR_extract Rk.good_bel (v := ?_) (u := ?_) ?_ ?_ ?_ ?_); rotate_left 2; (first | exact Rk.yes_none | exact Rk.yes_some rfl rfl); (simp only [Rk.slotS, List.getD_cons_succ, List.getD_cons_zero]; rfl); (intro ρ w' hw hK1; go_simp; rfl); (try simp only [Rk.upd, List.set_cons_succ, List.set_cons_zero])))
    (refine Rk.wpR_end ?_; intro wK hwK; (repeat (first | refine Rk.all2_is1 ?_ | (refine Rk.all2_isF ?_; intro r hr) | (refine Rk.all2_any ?_; intro vK hvK))); refine Rk.all2_nil ?_)
    have hS1 := Lib.hid (hS0.out.bel hwK)
    have hW1 := Lib.hid hwK
    clear hwK
    go_wp2_with fail
    (refine Rk.region_K (Le := Bel) [0, 1, 2, 3, 4, 5, 6, 7, 8, 9, 10, 11] [] Rk.good_bel (by kernel_rfl) (by kernel_rfl) (by kernel_rfl) (by kernel_rfl) ?_; (try simp only [Rk.pick, List.getElem?_cons_succ, List.getElem?_cons_zero, Option.toList_some, List.cons_append, List.nil_append, List.map_cons, List.map_nil]))
    repeat (first | ((with_reducible refine Rk.wpR_move Rk.good_bel (S := ?_) ?_ ?_ ?_ ?_); (first | exact Rk.yes_none | exact Rk.yes_some rfl rfl); rotate_left 2; (simp only [Rk.slotS, List.getD_cons_succ, List.getD_cons_zero]; rfl); rotate_left 1; (first | exact Rk.mon_is1 _ | exact Rk.mon_isF _ _ | assumption); (try simp only [Rk.upd, List.set_cons_succ, List.set_cons_zero])) | ((with_reducible refine Rk.wpR_assign Rk.good_bel (S := ?_) ?_ ?_ ?_ ?_); (first | exact Rk.yes_none | exact Rk.yes_some rfl rfl); rotate_left 2; (simp only [Rk.slotS, List.getD_cons_succ, List.getD_cons_zero]; rfl); rotate_left 1; (first | exact Rk.mon_is1 _ | exact Rk.mon_isF _ _ | assumption); (try simp only [Rk.upd, List.set_cons_succ, List.set_cons_zero])) | ((with_reducible refine Rk.wpR_skip (d := ?_) (c := ?_) ?_ ?_ ?_ ?_); rotate_left 2; rfl; rfl; rfl; (try simp only [Rk.upd, List.set_cons_succ, List.set_cons_zero])) | ((with_reducible refine Rk.wpR_pickT Rk.good_bel (S := ?_) ?_ ?_ ?_ ?_ ?_); (first | exact Rk.yes_none | exact Rk.yes_some rfl rfl); rotate_left 2; rfl; (simp only [Rk.slotS, List.getD_cons_succ, List.getD_cons_zero]; rfl); rotate_left 1; (first | exact Rk.mon_is1 _ | exact Rk.mon_isF _ _ | assumption); (try simp only [Rk.upd, List.set_cons_succ, List.set_cons_zero])) | ((with_reducible refine Rk.wpR_pickF Rk.good_bel (S := ?_) ?_ ?_ ?_ ?_ ?_); (first | exact Rk.yes_none | exact Rk.yes_some rfl rfl); rotate_left 2; rfl; (simp only [Rk.slotS, List.getD_cons_succ, List.getD_cons_zero]; rfl); rotate_left 1; (first | exact Rk.mon_is1 _ | exact Rk.mon_isF _ _ | assumption); (try simp only [Rk.upd, List.set_cons_succ, List.set_cons_zero])) | ((with_reducible refine Rk.wpR_widen Rk.good_bel Tryz.underlying28 Tryz.underlying46 (X := ?_) (S := ?_) ?_ ?_ ?_ ?_); rotate_left 2; (first | exact Rk.yes_none | exact Rk.yes_some rfl rfl); (simp only [Rk.slotS, List.getD_cons_succ, List.getD_cons_zero]; rfl); (first | exact Rk.subF_is _ _ | (refine Rk.subF_eq ?_; (first | assumption | ((refine Is.lit ?_); decide +kernel) | (refine Is.ofInt _ _)))); (try simp only [Rk.upd, List.set_cons_succ, List.set_cons_zero])) | ((with_reducible refine Rk.wpR_fadd Rk.good_bel (k := ?_) (X := ?_) (Y := ?_) (S := ?_) (T := ?_) ?_ ?_ ?_ ?_ ?_ ?_); rotate_left 5; (first | exact Rk.yes_none | exact Rk.yes_some rfl rfl); (simp only [Rk.slotS, List.getD_cons_succ, List.getD_cons_zero]; rfl); (simp only [Rk.slotS, List.getD_cons_succ, List.getD_cons_zero]; rfl); (first | exact Rk.subF_is _ _ | (refine Rk.subF_eq ?_; (first | assumption | ((refine Is.lit ?_); decide +kernel) | (refine Is.ofInt _ _)))); (first | exact Rk.subF_is _ _ | (refine Rk.subF_eq ?_; (first | assumption | ((refine Is.lit ?_); decide +kernel) | (refine Is.ofInt _ _)))); (try simp only [Rk.upd, List.set_cons_succ, List.set_cons_zero])) | ((with_reducible refine Rk.wpR_fsub Rk.good_bel (k := ?_) (X := ?_) (Y := ?_) (S := ?_) (T := ?_) ?_ ?_ ?_ ?_ ?_ ?_); rotate_left 5; (first | exact Rk.yes_none | exact Rk.yes_some rfl rfl); (simp only [Rk.slotS, List.getD_cons_succ, List.getD_cons_zero]; rfl); (simp only [Rk.slotS, List.getD_cons_succ, List.getD_cons_zero]; rfl); (first | exact Rk.subF_is _ _ | (refine Rk.subF_eq ?_; (first | assumption | ((refine Is.lit ?_); decide +kernel) | (refine Is.ofInt _ _)))); (first | exact Rk.subF_is _ _ | (refine Rk.subF_eq ?_; (first | assumption | ((refine Is.lit ?_); decide +kernel) | (refine Is.ofInt _ _)))); (try simp only [Rk.upd, List.set_cons_succ, List.set_cons_zero])) | ((with_reducible refine Rk.wpR_fmul Rk.good_bel (k := ?_) (X := ?_) (Y := ?_) (S := ?_) (T := ?_) ?_ ?_ ?_ ?_ ?_ ?_); rotate_left 5; (first | exact Rk.yes_none | exact Rk.yes_some rfl rfl); (simp only [Rk.slotS, List.getD_cons_succ, List.getD_cons_zero]; rfl); (simp only [Rk.slotS, List.getD_cons_succ, List.getD_cons_zero]; rfl); (first | exact Rk.subF_is _ _ | (refine Rk.subF_eq ?_; (first | assumption | ((refine Is.lit ?_); decide +kernel) | (refine Is.ofInt _ _)))); (first | exact Rk.subF_is _ _ | (refine Rk.subF_eq ?_; (first | assumption | ((refine Is.lit ?_); decide +kernel) | (refine Is.ofInt _ _)))); (try simp only [Rk.upd, List.set_cons_succ, List.set_cons_zero])) | ((with_reducible refine Rk.wpR_fquo Rk.good_bel (k := ?_) (X := ?_) (Y := ?_) (S := ?_) (T := ?_) ?_ ?_ ?_ ?_ ?_ ?_); rotate_left 5; (first | exact Rk.yes_none | exact Rk.yes_some rfl rfl); (simp only [Rk.slotS, List.getD_cons_succ, List.getD_cons_zero]; rfl); (simp only [Rk.slotS, List.getD_cons_succ, List.getD_cons_zero]; rfl); (first | exact Rk.subF_is _ _ | (refine Rk.subF_eq ?_; (first | assumption | ((refine Is.lit ?_); decide +kernel) | (refine Is.ofInt _ _)))); (first | exact Rk.subF_is _ _ | (refine Rk.subF_eq ?_; (first | assumption | ((refine Is.lit ?_); decide +kernel) | (refine Is.ofInt _ _)))); (try simp only [Rk.upd, List.set_cons_succ, List.set_cons_zero])) | ((with_reducible refine Rk.wpR_feq Rk.good_bel (k := ?_) (X := ?_) (Y := ?_) (S := ?_) (T := ?_) ?_ ?_ ?_ ?_ ?_ ?_); rotate_left 5; (first | exact Rk.yes_none | exact Rk.yes_some rfl rfl); (simp only [Rk.slotS, List.getD_cons_succ, List.getD_cons_zero]; rfl); (simp only [Rk.slotS, List.getD_cons_succ, List.getD_cons_zero]; rfl); (first | exact Rk.subF_is _ _ | (refine Rk.subF_eq ?_; (first | assumption | ((refine Is.lit ?_); decide +kernel) | (refine Is.ofInt _ _)))); (first | exact Rk.subF_is _ _ | (refine Rk.subF_eq ?_; (first | assumption | ((refine Is.lit ?_); decide +kernel) | (refine Is.ofInt _ _)))); (try simp only [Rk.upd, List.set_cons_succ, List.set_cons_zero])) | ((with_reducible refine Rk.wpR_fne Rk.good_bel (k := ?_) (X := ?_) (Y := ?_) (S := ?_) (T := ?_) ?_ ?_ ?_ ?_ ?_ ?_); rotate_left 5; (first | exact Rk.yes_none | exact Rk.yes_some rfl rfl); (simp only [Rk.slotS, List.getD_cons_succ, List.getD_cons_zero]; rfl); (simp only [Rk.slotS, List.getD_cons_succ, List.getD_cons_zero]; rfl); (first | exact Rk.subF_is _ _ | (refine Rk.subF_eq ?_; (first | assumption | ((refine Is.lit ?_); decide +kernel) | (refine Is.ofInt _ _)))); (first | exact Rk.subF_is _ _ | (refine Rk.subF_eq ?_; (first | assumption | ((refine Is.lit ?_); decide +kernel) | (refine Is.ofInt _ _)))); (try simp only [Rk.upd, List.set_cons_succ, List.set_cons_zero])) | ((with_reducible refine Rk.wpR_flt Rk.good_bel (k := ?_) (X := ?_) (Y := ?_) (S := ?_) (T := ?_) ?_ ?_ ?_ ?_ ?_ ?_); rotate_left 5; (first | exact Rk.yes_none | exact Rk.yes_some rfl rfl); (simp only [Rk.slotS, List.getD_cons_succ, List.getD_cons_zero]; rfl); (simp only [Rk.slotS, List.getD_cons_succ, List.getD_cons_zero]; rfl); (first | exact Rk.subF_is _ _ | (refine Rk.subF_eq ?_; (first | assumption | ((refine Is.lit ?_); decide +kernel) | (refine Is.ofInt _ _)))); (first | exact Rk.subF_is _ _ | (refine Rk.subF_eq ?_; (first | assumption | ((refine Is.lit ?_); decide +kernel) | (refine Is.ofInt _ _)))); (try simp only [Rk.upd, List.set_cons_succ, List.set_cons_zero])) | ((with_reducible refine Rk.wpR_fgt Rk.good_bel (k := ?_) (X := ?_) (Y := ?_) (S := ?_) (T := ?_) ?_ ?_ ?_ ?_ ?_ ?_); rotate_left 5; (first | exact Rk.yes_none | exact Rk.yes_some rfl rfl); (simp only [Rk.slotS, List.getD_cons_succ, List.getD_cons_zero]; rfl); (simp only [Rk.slotS, List.getD_cons_succ, List.getD_cons_zero]; rfl); (first | exact Rk.subF_is _ _ | (refine Rk.subF_eq ?_; (first | assumption | ((refine Is.lit ?_); decide +kernel) | (refine Is.ofInt _ _)))); (first | exact Rk.subF_is _ _ | (refine Rk.subF_eq ?_; (first | assumption | ((refine Is.lit ?_); decide +kernel) | (refine Is.ofInt _ _)))); (try simp only [Rk.upd, List.set_cons_succ, List.set_cons_zero])) | ((with_reducible refine Rk.wpR_fge Rk.good_bel (k := ?_) (X := ?_) (Y := ?_) (S := ?_) (T := ?_) ?_ ?_ ?_ ?_ ?_ ?_); rotate_left 5; (first | exact Rk.yes_none | exact Rk.yes_some rfl rfl); (simp only [Rk.slotS, List.getD_cons_succ, List.getD_cons_zero]; rfl); (simp only [Rk.slotS, List.getD_cons_succ, List.getD_cons_zero]; rfl); (first | exact Rk.subF_is _ _ | (refine Rk.subF_eq ?_; (first | assumption | ((refine Is.lit ?_); decide +kernel) | (refine Is.ofInt _ _)))); (first | exact Rk.subF_is _ _ | (refine Rk.subF_eq ?_; (first | assumption | ((refine Is.lit ?_); decide +kernel) | (refine Is.ofInt _ _)))); (try simp only [Rk.upd, List.set_cons_succ, List.set_cons_zero])) | ((with_reducible refine Rk.wpR_fle Rk.good_bel (k := ?_) (X := ?_) (Y := ?_) (S := ?_) (T := ?_) ?_ ?_ ?_ ?_ ?_ ?_); rotate_left 5; (first | exact Rk.yes_none | exact Rk.yes_some rfl rfl); (simp only [Rk.slotS, List.getD_cons_succ, List.getD_cons_zero]; rfl); (simp only [Rk.slotS, List.getD_cons_succ, List.getD_cons_zero]; rfl); (first | exact Rk.subF_is _ _ | (refine Rk.subF_eq ?_; (first | assumption | ((refine Is.lit ?_); decide +kernel) | (refine Is.ofInt _ _)))); (first | exact Rk.subF_is _ _ | (refine Rk.subF_eq ?_; (first | assumption | ((refine Is.lit ?_); decide +kernel) | (refine Is.ofInt _ _)))); (try simp only [Rk.upd, List.set_cons_succ, List.set_cons_zero])) | ((with_reducible refine Rk.wpR_indexAddr Rk.good_bel (v := ?_) (v' := ?_) (u := ?_) ?_ ?_ ?_ ?_ ?_); rotate_left 3; (first | exact Rk.yes_none | exact Rk.yes_some rfl rfl); (simp only [Rk.slotS, List.getD_cons_succ, List.getD_cons_zero]; rfl); (simp only [Rk.slotS, List.getD_cons_succ, List.getD_cons_zero]; rfl); (intro ρ w' hw hK1 hK2; go_simp; rfl); (try simp only [Rk.upd, List.set_cons_succ, List.set_cons_zero])) | ((with_reducible refine Rk.wpR_binOp Rk.good_bel (v := ?_) (v' := ?_) (u := ?_) ?_ ?_ ?_ ?_ ?_); rotate_left 3; (first | exact Rk.yes_none | exact Rk.yes_some rfl rfl); (simp only [Rk.slotS, List.getD_cons_succ, List.getD_cons_zero]; rfl); (simp only [Rk.slotS, List.getD_cons_succ, List.getD_cons_zero]; rfl); (intro ρ w' hw hK1 hK2; go_simp; rfl); (try simp only [Rk.upd, List.set_cons_succ, List.set_cons_zero])) | ((with_reducible refine Rk.wpR_load Rk.good_bel (v := ?_) (u := ?_) ?_ ?_ ?_ ?_); rotate_left 2; (first | exact Rk.yes_none | exact Rk.yes_some rfl rfl); (simp only [Rk.slotS, List.getD_cons_succ, List.getD_cons_zero]; rfl); (intro ρ w' hw hK1; have k0 := (hS1.out.bel hw).c0; have k1 := (hS1.out.bel hw).c1; have k3 := hbc.out _ (hW1.out.trans hw); go_simp; rfl); (try simp only [Rk.upd, List.set_cons_succ, List.set_cons_zero])) | ((with_reducible refine Rk.wpR_unOp Rk.good_bel (v := ?_) (u := ?_) ?_ ?_ ?_ ?_); rotate_left 2; (first | exact Rk.yes_none | exact Rk.yes_some rfl rfl); (simp only [Rk.slotS, List.getD_cons_succ, List.getD_cons_zero]; rfl); (intro ρ w' hw hK1; go_simp; rfl); (try simp only [Rk.upd, List.set_cons_succ, List.set_cons_zero])) | ((with_reducible refine Rk.wpR_convert Rk.good_bel (v := ?_) (u := ?_) ?_ ?_ ?_ ?_); rotate_left 2; (first | exact Rk.yes_none | exact Rk.yes_some rfl rfl); (simp only [Rk.slotS, List.getD_cons_succ, List.getD_cons_zero]; rfl); (intro ρ w' hw hK1; go_simp; rfl); (try simp only [Rk.upd, List.set_cons_succ, List.set_cons_zero])) | ((with_reducible refine Rk.wpR_field Rk.good_bel (v := ?_) (u := ?_) ?_ ?_ ?_ ?_); rotate_left 2; (first | exact Rk.yes_none | exact Rk.yes_some rfl rfl); (simp only [Rk.slotS, List.getD_cons_succ, List.getD_cons_zero]; rfl); (intro ρ w' hw hK1; go_simp; rfl); (try simp only [Rk.upd, List.set_cons_succ, List.set_cons_zero])) | ((with_reducible refine Rk.wpR_fieldAddr Rk.good_bel (v := ?_) (u := ?_) ?_ ?_ ?_ ?_); rotate_left 2; (first | exact Rk.yes_none | exact Rk.yes_some rfl rfl); (simp only [Rk.slotS, List.getD_cons_succ, List.getD_cons_zero]; rfl); (intro ρ w' hw hK1; go_simp; rfl); (try simp only [Rk.upd, List.set_cons_succ, List.set_cons_zero])) | ((with_reducible refine Rk.wpR_nilCheck Rk.good_bel (v := ?_) (u := ?_) ?_ ?_ ?_ ?_); rotate_left 2; (first | exact Rk.yes_none | exact Rk.yes_some rfl rfl); (simp only [Rk.slotS, List.getD_cons_succ, List.getD_cons_zero]; rfl); (intro ρ w' hw hK1; go_simp; rfl); (try simp only [Rk.upd, List.set_cons_succ, List.set_cons_zero])) | ((with_reducible refine Rk.wpR_builtin1 Rk.good_bel (v := ?_) (u := ?_) ?_ ?_ ?_ ?_); rotate_left 2; (first | exact Rk.yes_none | exact Rk.yes_some rfl rfl); (simp only [Rk.slotS, List.getD_cons_succ, List.getD_cons_zero]; rfl); (intro ρ w' hw hK1; go_simp; rfl); (try simp only [Rk.upd, List.set_cons_succ, List.set_cons_zero])) | ((with_reducible refine Rk.wpR_extract Rk.good_bel (v := ?_) (u := ?_) ?_ ?_ ?_ ?_); rotate_left 2; (first | exact Rk.yes_none | exact Rk.yes_some rfl rfl); (simp only [Rk.slotS, List.getD_cons_succ, List.getD_cons_zero]; rfl); (intro ρ w' hw hK1; go_simp; rfl); (try simp only [Rk.upd, List.set_cons_succ, List.set_cons_zero])))
    (refine Rk.wpR_end ?_; intro wK hwK; (repeat (first | refine Rk.all2_is1 ?_ | (refine Rk.all2_isF ?_; intro r hr) | (refine Rk.all2_any ?_; intro vK hvK))); refine Rk.all2_nil ?_)
    have hS2 := Lib.hid (hS1.out.bel hwK)
    have hW2 := Lib.hid (hW1.out.trans hwK)
    clear hwK hbc
    have k1 := hS2.out.c1
    have k2 := hS2.out.c2
    have k3 := hS2.out.thaw
    have hS3 := Lib.hid hS2.out.put1
    have k4 := hS3.out.c2
    have k5 := hS3.out.thaw
    have hs := hS2.out.su
    obtain ⟨m1, hm1⟩ : ∃ m1, m1 = s * 6364136223846793005 % 18446744073709551616 := ⟨_, rfl⟩
    have e1 : IntKind.u64.wrap ((s : Int) * 6364136223846793005) = (m1 : Int) := by rw [IntKind.wrap_u64]; omega
    obtain ⟨m2, hm2⟩ : ∃ m2, m2 = (m1 + B) % 18446744073709551616 := ⟨_, rfl⟩
    have e2 : IntKind.u64.wrap ((m1 : Int) + (B : Int)) = (m2 : Int) := by rw [IntKind.wrap_u64]; omega
    obtain ⟨m3, hm3⟩ : ∃ m3, m3 = (m2 + 1442695040888963407) % 18446744073709551616 := ⟨_, rfl⟩
    have e3 : IntKind.u64.wrap ((m2 : Int) + 1442695040888963407) = (m3 : Int) := by rw [IntKind.wrap_u64]; omega
    have hm3' : m3 ≤ 18446744073709551615 := by omega
    have hS4 := Lib.hid (hS3.out.put2 hm3')
    clear hm1 hm2 hm3 hs
    go_wp2_with fail
    have hX4 := Lib.hid (((BelX.of (bs := some g) hW2.out).setCell (p := ⟨g, 1, none⟩) (.inl rfl) (.int .i64 ((a : Int) + 1))).setCell (p := ⟨g, 2, none⟩) (.inl rfl) (.int .u64 (m3 : Int)))
    clear k1 k2 k3 k4 k5 e1 e2 e3 hS3 hS2
    revert hS4 hX4
    generalize ((wK.setCell ⟨g, 1, none⟩ (.int .i64 ((a : Int) + 1))).setCell ⟨g, 2, none⟩ (.int .u64 (m3 : Int))) = w4
    intro hS4 hX4
    (refine Rk.region_K (Le := Bel) [0, 1, 2, 3, 4, 5, 6, 7, 8, 9] [] Rk.good_bel (by kernel_rfl) (by kernel_rfl) (by kernel_rfl) (by kernel_rfl) ?_; (try simp only [Rk.pick, List.getElem?_cons_succ, List.getElem?_cons_zero, Option.toList_some, List.cons_append, List.nil_append, List.map_cons, List.map_nil]))
    repeat (first | ((with_reducible refine Rk.wpR_move Rk.good_bel (S := ?_) ?_ ?_ ?_ ?_); (first | exact Rk.yes_none | exact Rk.yes_some rfl rfl); rotate_left 2; (simp only [Rk.slotS, List.getD_cons_succ, List.getD_cons_zero]; rfl); rotate_left 1; (first | exact Rk.mon_is1 _ | exact Rk.mon_isF _ _ | assumption); (try simp only [Rk.upd, List.set_cons_succ, List.set_cons_zero])) | ((with_reducible refine Rk.wpR_assign Rk.good_bel (S := ?_) ?_ ?_ ?_ ?_); (first | exact Rk.yes_none | exact Rk.yes_some rfl rfl); rotate_left 2; (simp only [Rk.slotS, List.getD_cons_succ, List.getD_cons_zero]; rfl); rotate_left 1; (first | exact Rk.mon_is1 _ | exact Rk.mon_isF _ _ | assumption); (try simp only [Rk.upd, List.set_cons_succ, List.set_cons_zero])) | ((with_reducible refine Rk.wpR_skip (d := ?_) (c := ?_) ?_ ?_ ?_ ?_); rotate_left 2; rfl; rfl; rfl; (try simp only [Rk.upd, List.set_cons_succ, List.set_cons_zero])) | ((with_reducible refine Rk.wpR_pickT Rk.good_bel (S := ?_) ?_ ?_ ?_ ?_ ?_); (first | exact Rk.yes_none | exact Rk.yes_some rfl rfl); rotate_left 2; rfl; (simp only [Rk.slotS, List.getD_cons_succ, List.getD_cons_zero]; rfl); rotate_left 1; (first | exact Rk.mon_is1 _ | exact Rk.mon_isF _ _ | assumption); (try simp only [Rk.upd, List.set_cons_succ, List.set_cons_zero])) | ((with_reducible refine Rk.wpR_pickF Rk.good_bel (S := ?_) ?_ ?_ ?_ ?_ ?_); (first | exact Rk.yes_none | exact Rk.yes_some rfl rfl); rotate_left 2; rfl; (simp only [Rk.slotS, List.getD_cons_succ, List.getD_cons_zero]; rfl); rotate_left 1; (first | exact Rk.mon_is1 _ | exact Rk.mon_isF _ _ | assumption); (try simp only [Rk.upd, List.set_cons_succ, List.set_cons_zero])) | ((with_reducible refine Rk.wpR_widen Rk.good_bel Tryz.underlying28 Tryz.underlying46 (X := ?_) (S := ?_) ?_ ?_ ?_ ?_); rotate_left 2; (first | exact Rk.yes_none | exact Rk.yes_some rfl rfl); (simp only [Rk.slotS, List.getD_cons_succ, List.getD_cons_zero]; rfl); (first | exact Rk.subF_is _ _ | (refine Rk.subF_eq ?_; (first | assumption | ((refine Is.lit ?_); decide +kernel) | (refine Is.ofInt _ _)))); (try simp only [Rk.upd, List.set_cons_succ, List.set_cons_zero])) | ((with_reducible refine Rk.wpR_fadd Rk.good_bel (k := ?_) (X := ?_) (Y := ?_) (S := ?_) (T := ?_) ?_ ?_ ?_ ?_ ?_ ?_); rotate_left 5; (first | exact Rk.yes_none | exact Rk.yes_some rfl rfl); (simp only [Rk.slotS, List.getD_cons_succ, List.getD_cons_zero]; rfl); (simp only [Rk.slotS, List.getD_cons_succ, List.getD_cons_zero]; rfl); (first | exact Rk.subF_is _ _ | (refine Rk.subF_eq ?_; (first | assumption | ((refine Is.lit ?_); decide +kernel) | (refine Is.ofInt _ _)))); (first | exact Rk.subF_is _ _ | (refine Rk.subF_eq ?_; (first | assumption | ((refine Is.lit ?_); decide +kernel) | (refine Is.ofInt _ _)))); (try simp only [Rk.upd, List.set_cons_succ, List.set_cons_zero])) | ((with_reducible refine Rk.wpR_fsub Rk.good_bel (k := ?_) (X := ?_) (Y := ?_) (S := ?_) (T := ?_) ?_ ?_ ?_ ?_ ?_ ?_); rotate_left 5; (first | exact Rk.yes_none | exact Rk.yes_some rfl rfl); (simp only [Rk.slotS, List.getD_cons_succ, List.getD_cons_zero]; rfl); (simp only [Rk.slotS, List.getD_cons_succ, List.getD_cons_zero]; rfl); (first | exact Rk.subF_is _ _ | (refine Rk.subF_eq ?_; (first | assumption | ((refine Is.lit ?_); decide +kernel) | (refine Is.ofInt _ _)))); (first | exact Rk.subF_is _ _ | (refine Rk.subF_eq ?_; (first | assumption | ((refine Is.lit ?_); decide +kernel) | (refine Is.ofInt _ _)))); (try simp only [Rk.upd, List.set_cons_succ, List.set_cons_zero])) | ((with_reducible refine Rk.wpR_fmul Rk.good_bel (k := ?_) (X := ?_) (Y := ?_) (S := ?_) (T := ?_) ?_ ?_ ?_ ?_ ?_ ?_); rotate_left 5; (first | exact Rk.yes_none | exact Rk.yes_some rfl rfl); (simp only [Rk.slotS, List.getD_cons_succ, List.getD_cons_zero]; rfl); (simp only [Rk.slotS, List.getD_cons_succ, List.getD_cons_zero]; rfl); (first | exact Rk.subF_is _ _ | (refine Rk.subF_eq ?_; (first | assumption | ((refine Is.lit ?_); decide +kernel) | (refine Is.ofInt _ _)))); (first | exact Rk.subF_is _ _ | (refine Rk.subF_eq ?_; (first | assumption | ((refine Is.lit ?_); decide +kernel) | (refine Is.ofInt _ _)))); (try simp only [Rk.upd, List.set_cons_succ, List.set_cons_zero])) | ((with_reducible refine Rk.wpR_fquo Rk.good_bel (k := ?_) (X := ?_) (Y := ?_) (S := ?_) (T := ?_) ?_ ?_ ?_ ?_ ?_ ?_); rotate_left 5; (first | exact Rk.yes_none | exact Rk.yes_some rfl rfl); (simp only [Rk.slotS, List.getD_cons_succ, List.getD_cons_zero]; rfl); (simp only [Rk.slotS, List.getD_cons_succ, List.getD_cons_zero]; rfl); (first | exact Rk.subF_is _ _ | (refine Rk.subF_eq ?_; (first | assumption | ((refine Is.lit ?_); decide +kernel) | (refine Is.ofInt _ _)))); (first | exact Rk.subF_is _ _ | (refine Rk.subF_eq ?_; (first | assumption | ((refine Is.lit ?_); decide +kernel) | (refine Is.ofInt _ _)))); (try simp only [Rk.upd, List.set_cons_succ, List.set_cons_zero])) | ((with_reducible refine Rk.wpR_feq Rk.good_bel (k := ?_) (X := ?_) (Y := ?_) (S := ?_) (T := ?_) ?_ ?_ ?_ ?_ ?_ ?_); rotate_left 5; (first | exact Rk.yes_none | exact Rk.yes_some rfl rfl); (simp only [Rk.slotS, List.getD_cons_succ, List.getD_cons_zero]; rfl); (simp only [Rk.slotS, List.getD_cons_succ, List.getD_cons_zero]; rfl); (first | exact Rk.subF_is _ _ | (refine Rk.subF_eq ?_; (first | assumption | ((refine Is.lit ?_); decide +kernel) | (refine Is.ofInt _ _)))); (first | exact Rk.subF_is _ _ | (refine Rk.subF_eq ?_; (first | assumption | ((refine Is.lit ?_); decide +kernel) | (refine Is.ofInt _ _)))); (try simp only [Rk.upd, List.set_cons_succ, List.set_cons_zero])) | ((with_reducible refine Rk.wpR_fne Rk.good_bel (k := ?_) (X := ?_) (Y := ?_) (S := ?_) (T := ?_) ?_ ?_ ?_ ?_ ?_ ?_); rotate_left 5; (first | exact Rk.yes_none | exact Rk.yes_some rfl rfl); (simp only [Rk.slotS, List.getD_cons_succ, List.getD_cons_zero]; rfl); (simp only [Rk.slotS, List.getD_cons_succ, List.getD_cons_zero]; rfl); (first | exact Rk.subF_is _ _ | (refine Rk.subF_eq ?_; (first | assumption | ((refine Is.lit ?_); decide +kernel) | (refine Is.ofInt _ _)))); (first | exact Rk.subF_is _ _ | (refine Rk.subF_eq ?_; (first | assumption | ((refine Is.lit ?_); decide +kernel) | (refine Is.ofInt _ _)))); (try simp only [Rk.upd, List.set_cons_succ, List.set_cons_zero])) | ((with_reducible refine Rk.wpR_flt Rk.good_bel (k := ?_) (X := ?_) (Y := ?_) (S := ?_) (T := ?_) ?_ ?_ ?_ ?_ ?_ ?_); rotate_left 5; (first | exact Rk.yes_none | exact Rk.yes_some rfl rfl); (simp only [Rk.slotS, List.getD_cons_succ, List.getD_cons_zero]; rfl); (simp only [Rk.slotS, List.getD_cons_succ, List.getD_cons_zero]; rfl); (first | exact Rk.subF_is _ _ | (refine Rk.subF_eq ?_; (first | assumption | ((refine Is.lit ?_); decide +kernel) | (refine Is.ofInt _ _)))); (first | exact Rk.subF_is _ _ | (refine Rk.subF_eq ?_; (first | assumption | ((refine Is.lit ?_); decide +kernel) | (refine Is.ofInt _ _)))); (try simp only [Rk.upd, List.set_cons_succ, List.set_cons_zero])) | ((with_reducible refine Rk.wpR_fgt Rk.good_bel (k := ?_) (X := ?_) (Y := ?_) (S := ?_) (T := ?_) ?_ ?_ ?_ ?_ ?_ ?_); rotate_left 5; (first | exact Rk.yes_none | exact Rk.yes_some rfl rfl); (simp only [Rk.slotS, List.getD_cons_succ, List.getD_cons_zero]; rfl); (simp only [Rk.slotS, List.getD_cons_succ, List.getD_cons_zero]; rfl); (first | exact Rk.subF_is _ _ | (refine Rk.subF_eq ?_; (first | assumption | ((refine Is.lit ?_); decide +kernel) | (refine Is.ofInt _ _)))); (first | exact Rk.subF_is _ _ | (refine Rk.subF_eq ?_; (first | assumption | ((refine Is.lit ?_); decide +kernel) | (refine Is.ofInt _ _)))); (try simp only [Rk.upd, List.set_cons_succ, List.set_cons_zero])) | ((with_reducible refine Rk.wpR_fge Rk.good_bel (k := ?_) (X := ?_) (Y := ?_) (S := ?_) (T := ?_) ?_ ?_ ?_ ?_ ?_ ?_); rotate_left 5; (first | exact Rk.yes_none | exact Rk.yes_some rfl rfl); (simp only [Rk.slotS, List.getD_cons_succ, List.getD_cons_zero]; rfl); (simp only [Rk.slotS, List.getD_cons_succ, List.getD_cons_zero]; rfl); (first | exact Rk.subF_is _ _ | (refine Rk.subF_eq ?_; (first | assumption | ((refine Is.lit ?_); decide +kernel) | (refine Is.ofInt _ _)))); (first | exact Rk.subF_is _ _ | (refine Rk.subF_eq ?_; (first | assumption | ((refine Is.lit ?_); decide +kernel) | (refine Is.ofInt _ _)))); (try simp only [Rk.upd, List.set_cons_succ, List.set_cons_zero])) | ((with_reducible refine Rk.wpR_fle Rk.good_bel (k := ?_) (X := ?_) (Y := ?_) (S := ?_) (T := ?_) ?_ ?_ ?_ ?_ ?_ ?_); rotate_left 5; (first | exact Rk.yes_none | exact Rk.yes_some rfl rfl); (simp only [Rk.slotS, List.getD_cons_succ, List.getD_cons_zero]; rfl); (simp only [Rk.slotS, List.getD_cons_succ, List.getD_cons_zero]; rfl); (first | exact Rk.subF_is _ _ | (refine Rk.subF_eq ?_; (first | assumption | ((refine Is.lit ?_); decide +kernel) | (refine Is.ofInt _ _)))); (first | exact Rk.subF_is _ _ | (refine Rk.subF_eq ?_; (first | assumption | ((refine Is.lit ?_); decide +kernel) | (refine Is.ofInt _ _)))); (try simp only [Rk.upd, List.set_cons_succ, List.set_cons_zero])) | ((with_reducible refine Rk.wpR_indexAddr Rk.good_bel (v := ?_) (v' := ?_) (u := ?_) ?_ ?_ ?_ ?_ ?_); rotate_left 3; (first | exact Rk.yes_none | exact Rk.yes_some rfl rfl); (simp only [Rk.slotS, List.getD_cons_succ, List.getD_cons_zero]; rfl); (simp only [Rk.slotS, List.getD_cons_succ, List.getD_cons_zero]; rfl); (intro ρ w' hw hK1 hK2; go_simp; rfl); (try simp only [Rk.upd, List.set_cons_succ, List.set_cons_zero])) | ((with_reducible refine Rk.wpR_binOp Rk.good_bel (v := ?_) (v' := ?_) (u := ?_) ?_ ?_ ?_ ?_ ?_); rotate_left 3; (first | exact Rk.yes_none | exact Rk.yes_some rfl rfl); (simp only [Rk.slotS, List.getD_cons_succ, List.getD_cons_zero]; rfl); (simp only [Rk.slotS, List.getD_cons_succ, List.getD_cons_zero]; rfl); (intro ρ w' hw hK1 hK2; go_simp; rfl); (try simp only [Rk.upd, List.set_cons_succ, List.set_cons_zero])) | ((with_reducible refine Rk.wpR_load Rk.good_bel (v := ?_) (u := ?_) ?_ ?_ ?_ ?_); rotate_left 2; (first | exact Rk.yes_none | exact Rk.yes_some rfl rfl); (simp only [Rk.slotS, List.getD_cons_succ, List.getD_cons_zero]; rfl); (intro ρ w' hw hK1; have k0 := (hS4.out.bel hw).c0; have k1 := (hS4.out.bel hw).c1; rw [Int.natCast_succ] at k1; go_simp; rfl); (try simp only [Rk.upd, List.set_cons_succ, List.set_cons_zero])) | ((with_reducible refine Rk.wpR_unOp Rk.good_bel (v := ?_) (u := ?_) ?_ ?_ ?_ ?_); rotate_left 2; (first | exact Rk.yes_none | exact Rk.yes_some rfl rfl); (simp only [Rk.slotS, List.getD_cons_succ, List.getD_cons_zero]; rfl); (intro ρ w' hw hK1; go_simp; rfl); (try simp only [Rk.upd, List.set_cons_succ, List.set_cons_zero])) | ((with_reducible refine Rk.wpR_convert Rk.good_bel (v := ?_) (u := ?_) ?_ ?_ ?_ ?_); rotate_left 2; (first | exact Rk.yes_none | exact Rk.yes_some rfl rfl); (simp only [Rk.slotS, List.getD_cons_succ, List.getD_cons_zero]; rfl); (intro ρ w' hw hK1; go_simp; rfl); (try simp only [Rk.upd, List.set_cons_succ, List.set_cons_zero])) | ((with_reducible refine Rk.wpR_field Rk.good_bel (v := ?_) (u := ?_) ?_ ?_ ?_ ?_); rotate_left 2; (first | exact Rk.yes_none | exact Rk.yes_some rfl rfl); (simp only [Rk.slotS, List.getD_cons_succ, List.getD_cons_zero]; rfl); (intro ρ w' hw hK1; go_simp; rfl); (try simp only [Rk.upd, List.set_cons_succ, List.set_cons_zero])) | ((with_reducible refine Rk.wpR_fieldAddr Rk.good_bel (v := ?_) (u := ?_) ?_ ?_ ?_ ?_); rotate_left 2; (first | exact Rk.yes_none | exact Rk.yes_some rfl rfl); (simp only [Rk.slotS, List.getD_cons_succ, List.getD_cons_zero]; rfl); (intro ρ w' hw hK1; go_simp; rfl); (try simp only [Rk.upd, List.set_cons_succ, List.set_cons_zero])) | ((with_reducible refine Rk.wpR_nilCheck Rk.good_bel (v := ?_) (u := ?_) ?_ ?_ ?_ ?_); rotate_left 2; (first | exact Rk.yes_none | exact Rk.yes_some rfl rfl); (simp only [Rk.slotS, List.getD_cons_succ, List.getD_cons_zero]; rfl); (intro ρ w' hw hK1; go_simp; rfl); (try simp only [Rk.upd, List.set_cons_succ, List.set_cons_zero])) | ((with_reducible refine Rk.wpR_builtin1 Rk.good_bel (v := ?_) (u := ?_) ?_ ?_ ?_ ?_); rotate_left 2; (first | exact Rk.yes_none | exact Rk.yes_some rfl rfl); (simp only [Rk.slotS, List.getD_cons_succ, List.getD_cons_zero]; rfl); (intro ρ w' hw hK1; go_simp; rfl); (try simp only [Rk.upd, List.set_cons_succ, List.set_cons_zero])) | ((with_reducible refine Rk.wpR_extract Rk.good_bel (v := ?_) (u := ?_) ?_ ?_ ?_ ?_); rotate_left 2; (first | exact Rk.yes_none | exact Rk.yes_some rfl rfl); (simp only [Rk.slotS, List.getD_cons_succ, List.getD_cons_zero]; rfl); (intro ρ w' hw hK1; go_simp; rfl); (try simp only [Rk.upd, List.set_cons_succ, List.set_cons_zero])))
    (refine Rk.wpR_end ?_; intro wK hwK; (repeat (first | refine Rk.all2_is1 ?_ | (refine Rk.all2_isF ?_; intro r hr) | (refine Rk.all2_any ?_; intro vK hvK))); refine Rk.all2_nil ?_)
    have hS5 := Lib.hid (hS4.out.bel hwK)
    have hX5 := Lib.hid (hX4.out.trans (BelX.of hwK))
    clear hwK hS4 hX4
    have k7 := hS5.out.c2
    go_wp2_with fail
    refine bodyPost_ret (v := .int .i64 (B : Int)) (by simp [results, Tryz.results69, go_sem]) rfl ?_
    exact ⟨_, rfl, ⟨B, rfl, by omega⟩, ⟨a + 1, m3, Nat.le_refl _, hS5.out⟩, hX5.out⟩
  · have hge : n ≤ a := by omega
    have hgeI : ¬ ((a : Int) < (n : Int)) := by omega
    clear hlt
    go_enter Tryz.func69, Tryz.ntmps69
    go_wp2_with fail
    (refine Rk.region_K (Le := Bel) [0, 1, 2, 3, 4, 5, 6, 7, 8, 9] [] Rk.good_bel (by kernel_rfl) (by kernel_rfl) (by kernel_rfl) (by kernel_rfl) ?_; (try simp only [Rk.pick, List.getElem?_cons_succ, List.getElem?_cons_zero, Option.toList_some, List.cons_append, List.nil_append, List.map_cons, List.map_nil]))
    repeat (first | ((with_reducible refine Rk.wpR_move Rk.good_bel (S := ?_) ?_ ?_ ?_ ?_); (first | exact Rk.yes_none | exact Rk.yes_some rfl rfl); rotate_left 2; (simp only [Rk.slotS, List.getD_cons_succ, List.getD_cons_zero]; rfl); rotate_left 1; (first | exact Rk.mon_is1 _ | exact Rk.mon_isF _ _ | assumption); (try simp only [Rk.upd, List.set_cons_succ, List.set_cons_zero])) | ((with_reducible refine Rk.wpR_assign Rk.good_bel (S := ?_) ?_ ?_ ?_ ?_); (first | exact Rk.yes_none | exact Rk.yes_some rfl rfl); rotate_left 2; (simp only [Rk.slotS, List.getD_cons_succ, List.getD_cons_zero]; rfl); rotate_left 1; (first | exact Rk.mon_is1 _ | exact Rk.mon_isF _ _ | assumption); (try simp only [Rk.upd, List.set_cons_succ, List.set_cons_zero])) | ((with_reducible refine Rk.wpR_skip (d := ?_) (c := ?_) ?_ ?_ ?_ ?_); rotate_left 2; rfl; rfl; rfl; (try simp only [Rk.upd, List.set_cons_succ, List.set_cons_zero])) | ((with_reducible refine Rk.wpR_pickT Rk.good_bel (S := ?_) ?_ ?_ ?_ ?_ ?_); (first | exact Rk.yes_none | exact Rk.yes_some rfl rfl); rotate_left 2; rfl; (simp only [Rk.slotS, List.getD_cons_succ, List.getD_cons_zero]; rfl); rotate_left 1; (first | exact Rk.mon_is1 _ | exact Rk.mon_isF _ _ | assumption); (try simp only [Rk.upd, List.set_cons_succ, List.set_cons_zero])) | ((with_reducible refine Rk.wpR_pickF Rk.good_bel (S := ?_) ?_ ?_ ?_ ?_ ?_); (first | exact Rk.yes_none | exact Rk.yes_some rfl rfl); rotate_left 2; rfl; (simp only [Rk.slotS, List.getD_cons_succ, List.getD_cons_zero]; rfl); rotate_left 1; (first | exact Rk.mon_is1 _ | exact Rk.mon_isF _ _ | assumption); (try simp only [Rk.upd, List.set_cons_succ, List.set_cons_zero])) | ((with_reducible refine Rk.wpR_widen Rk.good_bel Tryz.underlying28 Tryz.underlying46 (X := ?_) (S := ?_) ?_ ?_ ?_ ?_); rotate_left 2; (first | exact Rk.yes_none | exact Rk.yes_some rfl rfl); (simp only [Rk.slotS, List.getD_cons_succ, List.getD_cons_zero]; rfl); (first | exact Rk.subF_is _ _ | (refine Rk.subF_eq ?_; (first | assumption | ((refine Is.lit ?_); decide +kernel) | (refine Is.ofInt _ _)))); (try simp only [Rk.upd, List.set_cons_succ, List.set_cons_zero])) | ((with_reducible refine Rk.wpR_fadd Rk.good_bel (k := ?_) (X := ?_) (Y := ?_) (S := ?_) (T := ?_) ?_ ?_ ?_ ?_ ?_ ?_); rotate_left 5; (first | exact Rk.yes_none | exact Rk.yes_some rfl rfl); (simp only [Rk.slotS, List.getD_cons_succ, List.getD_cons_zero]; rfl); (simp only [Rk.slotS, List.getD_cons_succ, List.getD_cons_zero]; rfl); (first | exact Rk.subF_is _ _ | (refine Rk.subF_eq ?_; (first | assumption | ((refine Is.lit ?_); decide +kernel) | (refine Is.ofInt _ _)))); (first | exact Rk.subF_is _ _ | (refine Rk.subF_eq ?_; (first | assumption | ((refine Is.lit ?_); decide +kernel) | (refine Is.ofInt _ _)))); (try simp only [Rk.upd, List.set_cons_succ, List.set_cons_zero])) | ((with_reducible refine Rk.wpR_fsub Rk.good_bel (k := ?_) (X := ?_) (Y := ?_) (S := ?_) (T := ?_) ?_ ?_ ?_ ?_ ?_ ?_); rotate_left 5; (first | exact Rk.yes_none | exact Rk.yes_some rfl rfl); (simp only [Rk.slotS, List.getD_cons_succ, List.getD_cons_zero]; rfl); (simp only [Rk.slotS, List.getD_cons_succ, List.getD_cons_zero]; rfl); (first | exact Rk.subF_is _ _ | (refine Rk.subF_eq ?_; (first | assumption | ((refine Is.lit ?_); decide +kernel) | (refine Is.ofInt _ _)))); (first | exact Rk.subF_is _ _ | (refine Rk.subF_eq ?_; (first | assumption | ((refine Is.lit ?_); decide +kernel) | (refine Is.ofInt _ _)))); (try simp only [Rk.upd, List.set_cons_succ, List.set_cons_zero])) | ((with_reducible refine Rk.wpR_fmul Rk.good_bel (k := ?_) (X := ?_) (Y := ?_) (S := ?_) (T := ?_) ?_ ?_ ?_ ?_ ?_ ?_); rotate_left 5; (first | exact Rk.yes_none | exact Rk.yes_some rfl rfl); (simp only [Rk.slotS, List.getD_cons_succ, List.getD_cons_zero]; rfl); (simp only [Rk.slotS, List.getD_cons_succ, List.getD_cons_zero]; rfl); (first | exact Rk.subF_is _ _ | (refine Rk.subF_eq ?_; (first | assumption | ((refine Is.lit ?_); decide +kernel) | (refine Is.ofInt _ _)))); (first | exact Rk.subF_is _ _ | (refine Rk.subF_eq ?_; (first | assumption | ((refine Is.lit ?_); decide +kernel) | (refine Is.ofInt _ _)))); (try simp only [Rk.upd, List.set_cons_succ, List.set_cons_zero])) | ((with_reducible refine Rk.wpR_fquo Rk.good_bel (k := ?_) (X := ?_) (Y := ?_) (S := ?_) (T := ?_) ?_ ?_ ?_ ?_ ?_ ?_); rotate_left 5; (first | exact Rk.yes_none | exact Rk.yes_some rfl rfl); (simp only [Rk.slotS, List.getD_cons_succ, List.getD_cons_zero]; rfl); (simp only [Rk.slotS, List.getD_cons_succ, List.getD_cons_zero]; rfl); (first | exact Rk.subF_is _ _ | (refine Rk.subF_eq ?_; (first | assumption | ((refine Is.lit ?_); decide +kernel) | (refine Is.ofInt _ _)))); (first | exact Rk.subF_is _ _ | (refine Rk.subF_eq ?_; (first | assumption | ((refine Is.lit ?_); decide +kernel) | (refine Is.ofInt _ _)))); (try simp only [Rk.upd, List.set_cons_succ, List.set_cons_zero])) | ((with_reducible refine Rk.wpR_feq Rk.good_bel (k := ?_) (X := ?_) (Y := ?_) (S := ?_) (T := ?_) ?_ ?_ ?_ ?_ ?_ ?_); rotate_left 5; (first | exact Rk.yes_none | exact Rk.yes_some rfl rfl); (simp only [Rk.slotS, List.getD_cons_succ, List.getD_cons_zero]; rfl); (simp only [Rk.slotS, List.getD_cons_succ, List.getD_cons_zero]; rfl); (first | exact Rk.subF_is _ _ | (refine Rk.subF_eq ?_; (first | assumption | ((refine Is.lit ?_); decide +kernel) | (refine Is.ofInt _ _)))); (first | exact Rk.subF_is _ _ | (refine Rk.subF_eq ?_; (first | assumption | ((refine Is.lit ?_); decide +kernel) | (refine Is.ofInt _ _)))); (try simp only [Rk.upd, List.set_cons_succ, List.set_cons_zero])) | ((with_reducible refine Rk.wpR_fne Rk.good_bel (k := ?_) (X := ?_) (Y := ?_) (S := ?_) (T := ?_) ?_ ?_ ?_ ?_ ?_ ?_); rotate_left 5; (first | exact Rk.yes_none | exact Rk.yes_some rfl rfl); (simp only [Rk.slotS, List.getD_cons_succ, List.getD_cons_zero]; rfl); (simp only [Rk.slotS, List.getD_cons_succ, List.getD_cons_zero]; rfl); (first | exact Rk.subF_is _ _ | (refine Rk.subF_eq ?_; (first | assumption | ((refine Is.lit ?_); decide +kernel) | (refine Is.ofInt _ _)))); (first | exact Rk.subF_is _ _ | (refine Rk.subF_eq ?_; (first | assumption | ((refine Is.lit ?_); decide +kernel) | (refine Is.ofInt _ _)))); (try simp only [Rk.upd, List.set_cons_succ, List.set_cons_zero])) | ((with_reducible refine Rk.wpR_flt Rk.good_bel (k := ?_) (X := ?_) (Y := ?_) (S := ?_) (T := ?_) ?_ ?_ ?_ ?_ ?_ ?_); rotate_left 5; (first | exact Rk.yes_none | exact Rk.yes_some rfl rfl); (simp only [Rk.slotS, List.getD_cons_succ, List.getD_cons_zero]; rfl); (simp only [Rk.slotS, List.getD_cons_succ, List.getD_cons_zero]; rfl); (first | exact Rk.subF_is _ _ | (refine Rk.subF_eq ?_; (first | assumption | ((refine Is.lit ?_); decide +kernel) | (refine Is.ofInt _ _)))); (first | exact Rk.subF_is _ _ | (refine Rk.subF_eq ?_; (first | assumption | ((refine Is.lit ?_); decide +kernel) | (refine Is.ofInt _ _)))); (try simp only [Rk.upd, List.set_cons_succ, List.set_cons_zero])) | ((with_reducible refine Rk.wpR_fgt Rk.good_bel (k := ?_) (X := ?_) (Y := ?_) (S := ?_) (T := ?_) ?_ ?_ ?_ ?_ ?_ ?_); rotate_left 5; (first | exact Rk.yes_none | exact Rk.yes_some rfl rfl); (simp only [Rk.slotS, List.getD_cons_succ, List.getD_cons_zero]; rfl); (simp only [Rk.slotS, List.getD_cons_succ, List.getD_cons_zero]; rfl); (first | exact Rk.subF_is _ _ | (refine Rk.subF_eq ?_; (first | assumption | ((refine Is.lit ?_); decide +kernel) | (refine Is.ofInt _ _)))); (first | exact Rk.subF_is _ _ | (refine Rk.subF_eq ?_; (first | assumption | ((refine Is.lit ?_); decide +kernel) | (refine Is.ofInt _ _)))); (try simp only [Rk.upd, List.set_cons_succ, List.set_cons_zero])) | ((with_reducible refine Rk.wpR_fge Rk.good_bel (k := ?_) (X := ?_) (Y := ?_) (S := ?_) (T := ?_) ?_ ?_ ?_ ?_ ?_ ?_); rotate_left 5; (first | exact Rk.yes_none | exact Rk.yes_some rfl rfl); (simp only [Rk.slotS, List.getD_cons_succ, List.getD_cons_zero]; rfl); (simp only [Rk.slotS, List.getD_cons_succ, List.getD_cons_zero]; rfl); (first | exact Rk.subF_is _ _ | (refine Rk.subF_eq ?_; (first | assumption | ((refine Is.lit ?_); decide +kernel) | (refine Is.ofInt _ _)))); (first | exact Rk.subF_is _ _ | (refine Rk.subF_eq ?_; (first | assumption | ((refine Is.lit ?_); decide +kernel) | (refine Is.ofInt _ _)))); (try simp only [Rk.upd, List.set_cons_succ, List.set_cons_zero])) | ((with_reducible refine Rk.wpR_fle Rk.good_bel (k := ?_) (X := ?_) (Y := ?_) (S := ?_) (T := ?_) ?_ ?_ ?_ ?_ ?_ ?_); rotate_left 5; (first | exact Rk.yes_none | exact Rk.yes_some rfl rfl); (simp only [Rk.slotS, List.getD_cons_succ, List.getD_cons_zero]; rfl); (simp only [Rk.slotS, List.getD_cons_succ, List.getD_cons_zero]; rfl); (first | exact Rk.subF_is _ _ | (refine Rk.subF_eq ?_; (first | assumption | ((refine Is.lit ?_); decide +kernel) | (refine Is.ofInt _ _)))); (first | exact Rk.subF_is _ _ | (refine Rk.subF_eq ?_; (first | assumption | ((refine Is.lit ?_); decide +kernel) | (refine Is.ofInt _ _)))); (try simp only [Rk.upd, List.set_cons_succ, List.set_cons_zero])) | ((with_reducible refine Rk.wpR_indexAddr Rk.good_bel (v := ?_) (v' := ?_) (u := ?_) ?_ ?_ ?_ ?_ ?_); rotate_left 3; (first | exact Rk.yes_none | exact Rk.yes_some rfl rfl); (simp only [Rk.slotS, List.getD_cons_succ, List.getD_cons_zero]; rfl); (simp only [Rk.slotS, List.getD_cons_succ, List.getD_cons_zero]; rfl); (intro ρ w' hw hK1 hK2; go_simp; rfl); (try simp only [Rk.upd, List.set_cons_succ, List.set_cons_zero])) | ((with_reducible refine Rk.wpR_binOp Rk.good_bel (v := ?_) (v' := ?_) (u := ?_) ?_ ?_ ?_ ?_ ?_); rotate_left 3; (first | exact Rk.yes_none | exact Rk.yes_some rfl rfl); (simp only [Rk.slotS, List.getD_cons_succ, List.getD_cons_zero]; rfl); (simp only [Rk.slotS, List.getD_cons_succ, List.getD_cons_zero]; rfl); (intro ρ w' hw hK1 hK2; go_simp; rfl); (try simp only [Rk.upd, List.set_cons_succ, List.set_cons_zero])) | ((with_reducible refine Rk.wpR_load Rk.good_bel (v := ?_) (u := ?_) ?_ ?_ ?_ ?_); rotate_left 2; (first | exact Rk.yes_none | exact Rk.yes_some rfl rfl); (simp only [Rk.slotS, List.getD_cons_succ, List.getD_cons_zero]; rfl); (intro ρ w' hw hK1; have k0 := (hS0.out.bel hw).c0; have k1 := (hS0.out.bel hw).c1; go_simp; rfl); (try simp only [Rk.upd, List.set_cons_succ, List.set_cons_zero])) | ((with_reducible refine Rk.wpR_unOp Rk.good_bel (v := ?_) (u := ?_) ?_ ?_ ?_ ?_); rotate_left 2; (first | exact Rk.yes_none | exact Rk.yes_some rfl rfl); (simp only [Rk.slotS, List.getD_cons_succ, List.getD_cons_zero]; rfl); (intro ρ w' hw hK1; go_simp; rfl); (try simp only [Rk.upd, List.set_cons_succ, List.set_cons_zero])) | ((with_reducible refine Rk.wpR_convert Rk.good_bel (v := ?_) (u := ?_) ?_ ?_ ?_ ?_); rotate_left 2; (first | exact Rk.yes_none | exact Rk.yes_some rfl rfl); (simp only [Rk.slotS, List.getD_cons_succ, List.getD_cons_zero]; rfl); (intro ρ w' hw hK1; go_simp; rfl); (try simp only [Rk.upd, List.set_cons_succ, List.set_cons_zero])) | ((with_reducible refine Rk.wpR_field Rk.good_bel (v := ?_) (u := ?_) ?_ ?_ ?_ ?_); rotate_left 2; (first | exact Rk.yes_none | exact Rk.yes_some rfl rfl); (simp only [Rk.slotS, List.getD_cons_succ, List.getD_cons_zero]; rfl); (intro ρ w' hw hK1; go_simp; rfl); (try simp only [Rk.upd, List.set_cons_succ, List.set_cons_zero])) | ((with_reducible refine Rk.wpR_fieldAddr Rk.good_bel (v := ?_) (u := ?_) ?_ ?_ ?_ ?_); rotate_left 2; (first | exact Rk.yes_none | exact Rk.yes_some rfl rfl); (simp only [Rk.slotS, List.getD_cons_succ, List.getD_cons_zero]; rfl); (intro ρ w' hw hK1; go_simp; rfl); (try simp only [Rk.upd, List.set_cons_succ, List.set_cons_zero])) | ((with_reducible refine Rk.wpR_nilCheck Rk.good_bel (v := ?_) (u := ?_) ?_ ?_ ?_ ?_); rotate_left 2; (first | exact Rk.yes_none | exact Rk.yes_some rfl rfl); (simp only [Rk.slotS, List.getD_cons_succ, List.getD_cons_zero]; rfl); (intro ρ w' hw hK1; go_simp; rfl); (try simp only [Rk.upd, List.set_cons_succ, List.set_cons_zero])) | ((with_reducible refine Rk.wpR_builtin1 Rk.good_bel (v := ?_) (u := ?_) ?_ ?_ ?_ ?_); rotate_left 2; (first | exact Rk.yes_none | exact Rk.yes_some rfl rfl); (simp only [Rk.slotS, List.getD_cons_succ, List.getD_cons_zero]; rfl); (intro ρ w' hw hK1; go_simp; rfl); (try simp only [Rk.upd, List.set_cons_succ, List.set_cons_zero])) | ((with_reducible refine Rk.wpR_extract Rk.good_bel (v := ?_) (u := ?_) ?_ ?_ ?_ ?_); rotate_left 2; (first | exact Rk.yes_none | exact Rk.yes_some rfl rfl); (simp only [Rk.slotS, List.getD_cons_succ, List.getD_cons_zero]; rfl); (intro ρ w' hw hK1; go_simp; rfl); (try simp only [Rk.upd, List.set_cons_succ, List.set_cons_zero])))
    (refine Rk.wpR_end ?_; intro wK hwK; (repeat (first | refine Rk.all2_is1 ?_ | (refine Rk.all2_isF ?_; intro r hr) | (refine Rk.all2_any ?_; intro vK hvK))); refine Rk.all2_nil ?_)
    have hS2 := Lib.hid (hS0.out.bel hwK)
    have hW2 := Lib.hid hwK
    clear hwK
    have k1 := hS2.out.c1
    have k2 := hS2.out.c2
    have k3 := hS2.out.thaw
    have hS3 := Lib.hid hS2.out.put1
    have k4 := hS3.out.c2
    have k5 := hS3.out.thaw
    have hs := hS2.out.su
    obtain ⟨m1, hm1⟩ : ∃ m1, m1 = s * 6364136223846793005 % 18446744073709551616 := ⟨_, rfl⟩
    have e1 : IntKind.u64.wrap ((s : Int) * 6364136223846793005) = (m1 : Int) := by rw [IntKind.wrap_u64]; omega
    have e2 : IntKind.u64.wrap (m1 : Int) = (m1 : Int) := by rw [IntKind.wrap_u64]; omega
    obtain ⟨m3, hm3⟩ : ∃ m3, m3 = (m1 + 1442695040888963407) % 18446744073709551616 := ⟨_, rfl⟩
    have e3 : IntKind.u64.wrap ((m1 : Int) + 1442695040888963407) = (m3 : Int) := by rw [IntKind.wrap_u64]; omega
    have hm3' : m3 ≤ 18446744073709551615 := by omega
    have hS4 := Lib.hid (hS3.out.put2 hm3')
    obtain ⟨V, hV⟩ : ∃ V, V = m3 / 1099511627776 % 256 := ⟨_, rfl⟩
    have e4 : bits .and .u64 ((m3 : Int) / 1099511627776) 255 = (V : Int) := by rw [u64_shr_and, hV]
    have hV256 : V < 256 := by omega
    replace hV := Lib.hid hV
    clear hm1 hm3 hs
    go_wp2_with fail
    have hX4 := Lib.hid (((BelX.of (bs := some g) hW2.out).setCell (p := ⟨g, 1, none⟩) (.inl rfl) (.int .i64 ((a : Int) + 1))).setCell (p := ⟨g, 2, none⟩) (.inl rfl) (.int .u64 (m3 : Int)))
    clear k1 k2 k3 k4 k5 e1 e2 e3 hS3 hS2
    revert hS4 hX4
    generalize ((wK.setCell ⟨g, 1, none⟩ (.int .i64 ((a : Int) + 1))).setCell ⟨g, 2, none⟩ (.int .u64 (m3 : Int))) = w4
    intro hS4 hX4
    (refine Rk.region_K (Le := Bel) [0, 1, 2, 3, 4, 5, 6, 7, 8, 9] [] Rk.good_bel (by kernel_rfl) (by kernel_rfl) (by kernel_rfl) (by kernel_rfl) ?_; (try simp only [Rk.pick, List.getElem?_cons_succ, List.getElem?_cons_zero, Option.toList_some, List.cons_append, List.nil_append, List.map_cons, List.map_nil]))
    repeat (first | ((with_reducible refine Rk.wpR_move Rk.good_bel (S := ?_) ?_ ?_ ?_ ?_); (first | exact Rk.yes_none | exact Rk.yes_some rfl rfl); rotate_left 2; (simp only [Rk.slotS, List.getD_cons_succ, List.getD_cons_zero]; rfl); rotate_left 1; (first | exact Rk.mon_is1 _ | exact Rk.mon_isF _ _ | assumption); (try simp only [Rk.upd, List.set_cons_succ, List.set_cons_zero])) | ((with_reducible refine Rk.wpR_assign Rk.good_bel (S := ?_) ?_ ?_ ?_ ?_); (first | exact Rk.yes_none | exact Rk.yes_some rfl rfl); rotate_left 2; (simp only [Rk.slotS, List.getD_cons_succ, List.getD_cons_zero]; rfl); rotate_left 1; (first | exact Rk.mon_is1 _ | exact Rk.mon_isF _ _ | assumption); (try simp only [Rk.upd, List.set_cons_succ, List.set_cons_zero])) | ((with_reducible refine Rk.wpR_skip (d := ?_) (c := ?_) ?_ ?_ ?_ ?_); rotate_left 2; rfl; rfl; rfl; (try simp only [Rk.upd, List.set_cons_succ, List.set_cons_zero])) | ((with_reducible refine Rk.wpR_pickT Rk.good_bel (S := ?_) ?_ ?_ ?_ ?_ ?_); (first | exact Rk.yes_none | exact Rk.yes_some rfl rfl); rotate_left 2; rfl; (simp only [Rk.slotS, List.getD_cons_succ, List.getD_cons_zero]; rfl); rotate_left 1; (first | exact Rk.mon_is1 _ | exact Rk.mon_isF _ _ | assumption); (try simp only [Rk.upd, List.set_cons_succ, List.set_cons_zero])) | ((with_reducible refine Rk.wpR_pickF Rk.good_bel (S := ?_) ?_ ?_ ?_ ?_ ?_); (first | exact Rk.yes_none | exact Rk.yes_some rfl rfl); rotate_left 2; rfl; (simp only [Rk.slotS, List.getD_cons_succ, List.getD_cons_zero]; rfl); rotate_left 1; (first | exact Rk.mon_is1 _ | exact Rk.mon_isF _ _ | assumption); (try simp only [Rk.upd, List.set_cons_succ, List.set_cons_zero])) | ((with_reducible refine Rk.wpR_widen Rk.good_bel Tryz.underlying28 Tryz.underlying46 (X := ?_) (S := ?_) ?_ ?_ ?_ ?_); rotate_left 2; (first | exact Rk.yes_none | exact Rk.yes_some rfl rfl); (simp only [Rk.slotS, List.getD_cons_succ, List.getD_cons_zero]; rfl); (first | exact Rk.subF_is _ _ | (refine Rk.subF_eq ?_; (first | assumption | ((refine Is.lit ?_); decide +kernel) | (refine Is.ofInt _ _)))); (try simp only [Rk.upd, List.set_cons_succ, List.set_cons_zero])) | ((with_reducible refine Rk.wpR_fadd Rk.good_bel (k := ?_) (X := ?_) (Y := ?_) (S := ?_) (T := ?_) ?_ ?_ ?_ ?_ ?_ ?_); rotate_left 5; (first | exact Rk.yes_none | exact Rk.yes_some rfl rfl); (simp only [Rk.slotS, List.getD_cons_succ, List.getD_cons_zero]; rfl); (simp only [Rk.slotS, List.getD_cons_succ, List.getD_cons_zero]; rfl); (first | exact Rk.subF_is _ _ | (refine Rk.subF_eq ?_; (first | assumption | ((refine Is.lit ?_); decide +kernel) | (refine Is.ofInt _ _)))); (first | exact Rk.subF_is _ _ | (refine Rk.subF_eq ?_; (first | assumption | ((refine Is.lit ?_); decide +kernel) | (refine Is.ofInt _ _)))); (try simp only [Rk.upd, List.set_cons_succ, List.set_cons_zero])) | ((with_reducible refine Rk.wpR_fsub Rk.good_bel (k := ?_) (X := ?_) (Y := ?_) (S := ?_) (T := ?_) ?_ ?_ ?_ ?_ ?_ ?_); rotate_left 5; (first | exact Rk.yes_none | exact Rk.yes_some rfl rfl); (simp only [Rk.slotS, List.getD_cons_succ, List.getD_cons_zero]; rfl); (simp only [Rk.slotS, List.getD_cons_succ, List.getD_cons_zero]; rfl); (first | exact Rk.subF_is _ _ | (refine Rk.subF_eq ?_; (first | assumption | ((refine Is.lit ?_); decide +kernel) | (refine Is.ofInt _ _)))); (first | exact Rk.subF_is _ _ | (refine Rk.subF_eq ?_; (first | assumption | ((refine Is.lit ?_); decide +kernel) | (refine Is.ofInt _ _)))); (try simp only [Rk.upd, List.set_cons_succ, List.set_cons_zero])) | ((with_reducible refine Rk.wpR_fmul Rk.good_bel (k := ?_) (X := ?_) (Y := ?_) (S := ?_) (T := ?_) ?_ ?_ ?_ ?_ ?_ ?_); rotate_left 5; (first | exact Rk.yes_none | exact Rk.yes_some rfl rfl); (simp only [Rk.slotS, List.getD_cons_succ, List.getD_cons_zero]; rfl); (simp only [Rk.slotS, List.getD_cons_succ, List.getD_cons_zero]; rfl); (first | exact Rk.subF_is _ _ | (refine Rk.subF_eq ?_; (first | assumption | ((refine Is.lit ?_); decide +kernel) | (refine Is.ofInt _ _)))); (first | exact Rk.subF_is _ _ | (refine Rk.subF_eq ?_; (first | assumption | ((refine Is.lit ?_); decide +kernel) | (refine Is.ofInt _ _)))); (try simp only [Rk.upd, List.set_cons_succ, List.set_cons_zero])) | ((with_reducible refine Rk.wpR_fquo Rk.good_bel (k := ?_) (X := ?_) (Y := ?_) (S := ?_) (T := ?_) ?_ ?_ ?_ ?_ ?_ ?_); rotate_left 5; (first | exact Rk.yes_none | exact Rk.yes_some rfl rfl); (simp only [Rk.slotS, List.getD_cons_succ, List.getD_cons_zero]; rfl); (simp only [Rk.slotS, List.getD_cons_succ, List.getD_cons_zero]; rfl); (first | exact Rk.subF_is _ _ | (refine Rk.subF_eq ?_; (first | assumption | ((refine Is.lit ?_); decide +kernel) | (refine Is.ofInt _ _)))); (first | exact Rk.subF_is _ _ | (refine Rk.subF_eq ?_; (first | assumption | ((refine Is.lit ?_); decide +kernel) | (refine Is.ofInt _ _)))); (try simp only [Rk.upd, List.set_cons_succ, List.set_cons_zero])) | ((with_reducible refine Rk.wpR_feq Rk.good_bel (k := ?_) (X := ?_) (Y := ?_) (S := ?_) (T := ?_) ?_ ?_ ?_ ?_ ?_ ?_); rotate_left 5; (first | exact Rk.yes_none | exact Rk.yes_some rfl rfl); (simp only [Rk.slotS, List.getD_cons_succ, List.getD_cons_zero]; rfl); (simp only [Rk.slotS, List.getD_cons_succ, List.getD_cons_zero]; rfl); (first | exact Rk.subF_is _ _ | (refine Rk.subF_eq ?_; (first | assumption | ((refine Is.lit ?_); decide +kernel) | (refine Is.ofInt _ _)))); (first | exact Rk.subF_is _ _ | (refine Rk.subF_eq ?_; (first | assumption | ((refine Is.lit ?_); decide +kernel) | (refine Is.ofInt _ _)))); (try simp only [Rk.upd, List.set_cons_succ, List.set_cons_zero])) | ((with_reducible refine Rk.wpR_fne Rk.good_bel (k := ?_) (X := ?_) (Y := ?_) (S := ?_) (T := ?_) ?_ ?_ ?_ ?_ ?_ ?_); rotate_left 5; (first | exact Rk.yes_none | exact Rk.yes_some rfl rfl); (simp only [Rk.slotS, List.getD_cons_succ, List.getD_cons_zero]; rfl); (simp only [Rk.slotS, List.getD_cons_succ, List.getD_cons_zero]; rfl); (first | exact Rk.subF_is _ _ | (refine Rk.subF_eq ?_; (first | assumption | ((refine Is.lit ?_); decide +kernel) | (refine Is.ofInt _ _)))); (first | exact Rk.subF_is _ _ | (refine Rk.subF_eq ?_; (first | assumption | ((refine Is.lit ?_); decide +kernel) | (refine Is.ofInt _ _)))); (try simp only [Rk.upd, List.set_cons_succ, List.set_cons_zero])) | ((with_reducible refine Rk.wpR_flt Rk.good_bel (k := ?_) (X := ?_) (Y := ?_) (S := ?_) (T := ?_) ?_ ?_ ?_ ?_ ?_ ?_); rotate_left 5; (first | exact Rk.yes_none | exact Rk.yes_some rfl rfl); (simp only [Rk.slotS, List.getD_cons_succ, List.getD_cons_zero]; rfl); (simp only [Rk.slotS, List.getD_cons_succ, List.getD_cons_zero]; rfl); (first | exact Rk.subF_is _ _ | (refine Rk.subF_eq ?_; (first | assumption | ((refine Is.lit ?_); decide +kernel) | (refine Is.ofInt _ _)))); (first | exact Rk.subF_is _ _ | (refine Rk.subF_eq ?_; (first | assumption | ((refine Is.lit ?_); decide +kernel) | (refine Is.ofInt _ _)))); (try simp only [Rk.upd, List.set_cons_succ, List.set_cons_zero])) | ((with_reducible refine Rk.wpR_fgt Rk.good_bel (k := ?_) (X := ?_) (Y := ?_) (S := ?_) (T := ?_) ?_ ?_ ?_ ?_ ?_ ?_); rotate_left 5; (first | exact Rk.yes_none | exact Rk.yes_some rfl rfl); (simp only [Rk.slotS, List.getD_cons_succ, List.getD_cons_zero]; rfl); (simp only [Rk.slotS, List.getD_cons_succ, List.getD_cons_zero]; rfl); (first | exact Rk.subF_is _ _ | (refine Rk.subF_eq ?_; (first | assumption | ((refine Is.lit ?_); decide +kernel) | (refine Is.ofInt _ _)))); (first | exact Rk.subF_is _ _ | (refine Rk.subF_eq ?_; (first | assumption | ((refine Is.lit ?_); decide +kernel) | (refine Is.ofInt _ _)))); (try simp only [Rk.upd, List.set_cons_succ, List.set_cons_zero])) | ((with_reducible refine Rk.wpR_fge Rk.good_bel (k := ?_) (X := ?_) (Y := ?_) (S := ?_) (T := ?_) ?_ ?_ ?_ ?_ ?_ ?_); rotate_left 5; (first | exact Rk.yes_none | exact Rk.yes_some rfl rfl); (simp only [Rk.slotS, List.getD_cons_succ, List.getD_cons_zero]; rfl); (simp only [Rk.slotS, List.getD_cons_succ, List.getD_cons_zero]; rfl); (first | exact Rk.subF_is _ _ | (refine Rk.subF_eq ?_; (first | assumption | ((refine Is.lit ?_); decide +kernel) | (refine Is.ofInt _ _)))); (first | exact Rk.subF_is _ _ | (refine Rk.subF_eq ?_; (first | assumption | ((refine Is.lit ?_); decide +kernel) | (refine Is.ofInt _ _)))); (try simp only [Rk.upd, List.set_cons_succ, List.set_cons_zero])) | ((with_reducible refine Rk.wpR_fle Rk.good_bel (k := ?_) (X := ?_) (Y := ?_) (S := ?_) (T := ?_) ?_ ?_ ?_ ?_ ?_ ?_); rotate_left 5; (first | exact Rk.yes_none | exact Rk.yes_some rfl rfl); (simp only [Rk.slotS, List.getD_cons_succ, List.getD_cons_zero]; rfl); (simp only [Rk.slotS, List.getD_cons_succ, List.getD_cons_zero]; rfl); (first | exact Rk.subF_is _ _ | (refine Rk.subF_eq ?_; (first | assumption | ((refine Is.lit ?_); decide +kernel) | (refine Is.ofInt _ _)))); (first | exact Rk.subF_is _ _ | (refine Rk.subF_eq ?_; (first | assumption | ((refine Is.lit ?_); decide +kernel) | (refine Is.ofInt _ _)))); (try simp only [Rk.upd, List.set_cons_succ, List.set_cons_zero])) | ((with_reducible refine Rk.wpR_indexAddr Rk.good_bel (v := ?_) (v' := ?_) (u := ?_) ?_ ?_ ?_ ?_ ?_); rotate_left 3; (first | exact Rk.yes_none | exact Rk.yes_some rfl rfl); (simp only [Rk.slotS, List.getD_cons_succ, List.getD_cons_zero]; rfl); (simp only [Rk.slotS, List.getD_cons_succ, List.getD_cons_zero]; rfl); (intro ρ w' hw hK1 hK2; go_simp; rfl); (try simp only [Rk.upd, List.set_cons_succ, List.set_cons_zero])) | ((with_reducible refine Rk.wpR_binOp Rk.good_bel (v := ?_) (v' := ?_) (u := ?_) ?_ ?_ ?_ ?_ ?_); rotate_left 3; (first | exact Rk.yes_none | exact Rk.yes_some rfl rfl); (simp only [Rk.slotS, List.getD_cons_succ, List.getD_cons_zero]; rfl); (simp only [Rk.slotS, List.getD_cons_succ, List.getD_cons_zero]; rfl); (intro ρ w' hw hK1 hK2; go_simp; rfl); (try simp only [Rk.upd, List.set_cons_succ, List.set_cons_zero])) | ((with_reducible refine Rk.wpR_load Rk.good_bel (v := ?_) (u := ?_) ?_ ?_ ?_ ?_); rotate_left 2; (first | exact Rk.yes_none | exact Rk.yes_some rfl rfl); (simp only [Rk.slotS, List.getD_cons_succ, List.getD_cons_zero]; rfl); (intro ρ w' hw hK1; have k0 := (hS4.out.bel hw).c0; have k1 := (hS4.out.bel hw).c1; rw [Int.natCast_succ] at k1; go_simp; rfl); (try simp only [Rk.upd, List.set_cons_succ, List.set_cons_zero])) | ((with_reducible refine Rk.wpR_unOp Rk.good_bel (v := ?_) (u := ?_) ?_ ?_ ?_ ?_); rotate_left 2; (first | exact Rk.yes_none | exact Rk.yes_some rfl rfl); (simp only [Rk.slotS, List.getD_cons_succ, List.getD_cons_zero]; rfl); (intro ρ w' hw hK1; go_simp; rfl); (try simp only [Rk.upd, List.set_cons_succ, List.set_cons_zero])) | ((with_reducible refine Rk.wpR_convert Rk.good_bel (v := ?_) (u := ?_) ?_ ?_ ?_ ?_); rotate_left 2; (first | exact Rk.yes_none | exact Rk.yes_some rfl rfl); (simp only [Rk.slotS, List.getD_cons_succ, List.getD_cons_zero]; rfl); (intro ρ w' hw hK1; go_simp; rfl); (try simp only [Rk.upd, List.set_cons_succ, List.set_cons_zero])) | ((with_reducible refine Rk.wpR_field Rk.good_bel (v := ?_) (u := ?_) ?_ ?_ ?_ ?_); rotate_left 2; (first | exact Rk.yes_none | exact Rk.yes_some rfl rfl); (simp only [Rk.slotS, List.getD_cons_succ, List.getD_cons_zero]; rfl); (intro ρ w' hw hK1; go_simp; rfl); (try simp only [Rk.upd, List.set_cons_succ, List.set_cons_zero])) | ((with_reducible refine Rk.wpR_fieldAddr Rk.good_bel (v := ?_) (u := ?_) ?_ ?_ ?_ ?_); rotate_left 2; (first | exact Rk.yes_none | exact Rk.yes_some rfl rfl); (simp only [Rk.slotS, List.getD_cons_succ, List.getD_cons_zero]; rfl); (intro ρ w' hw hK1; go_simp; rfl); (try simp only [Rk.upd, List.set_cons_succ, List.set_cons_zero])) | ((with_reducible refine Rk.wpR_nilCheck Rk.good_bel (v := ?_) (u := ?_) ?_ ?_ ?_ ?_); rotate_left 2; (first | exact Rk.yes_none | exact Rk.yes_some rfl rfl); (simp only [Rk.slotS, List.getD_cons_succ, List.getD_cons_zero]; rfl); (intro ρ w' hw hK1; go_simp; rfl); (try simp only [Rk.upd, List.set_cons_succ, List.set_cons_zero])) | ((with_reducible refine Rk.wpR_builtin1 Rk.good_bel (v := ?_) (u := ?_) ?_ ?_ ?_ ?_); rotate_left 2; (first | exact Rk.yes_none | exact Rk.yes_some rfl rfl); (simp only [Rk.slotS, List.getD_cons_succ, List.getD_cons_zero]; rfl); (intro ρ w' hw hK1; go_simp; rfl); (try simp only [Rk.upd, List.set_cons_succ, List.set_cons_zero])) | ((with_reducible refine Rk.wpR_extract Rk.good_bel (v := ?_) (u := ?_) ?_ ?_ ?_ ?_); rotate_left 2; (first | exact Rk.yes_none | exact Rk.yes_some rfl rfl); (simp only [Rk.slotS, List.getD_cons_succ, List.getD_cons_zero]; rfl); (intro ρ w' hw hK1; go_simp; rfl); (try simp only [Rk.upd, List.set_cons_succ, List.set_cons_zero])))
    (refine Rk.wpR_end ?_; intro wK hwK; (repeat (first | refine Rk.all2_is1 ?_ | (refine Rk.all2_isF ?_; intro r hr) | (refine Rk.all2_any ?_; intro vK hvK))); refine Rk.all2_nil ?_)
    have hS5 := Lib.hid (hS4.out.bel hwK)
    have hX5 := Lib.hid (hX4.out.trans (BelX.of hwK))
    clear hwK hS4 hX4
    have k7 := hS5.out.c2
    go_wp2_with fail
    refine bodyPost_ret (v := .int .i64 (V : Int)) (by simp [results, Tryz.results69, go_sem]) rfl ?_
    exact ⟨_, rfl, ⟨V, rfl, by omega⟩, ⟨a + 1, m3, Nat.le_refl _, hS5.out⟩, hX5.out⟩
theorem tk_lt {m : Nat} {g : Nat} {X : SCx} {k : Nat} {w w' : World} {z : Int} (h : 0 ≤ z) (h' : z < (m : Int)) (hS : Src w' g X k) (hX : BelX (some g) w w') : TkRet (IsLt m) g X k w (.returned (.int .i64 z)) w' :=
  ⟨_, rfl, ⟨z.toNat, by rw [Int.toNat_of_nonneg h], by omega⟩, hS, hX⟩
set_option maxHeartbeats 1000000 in
theorem pick_any (w : World) (g : Nat) (X : SCx) (k : Nat) (hS : Src w g X k) (hk : k ≤ 100000) (m : Nat) (h2 : 2 ≤ m) (hm : m ≤ 65536) :
    Calls Tryz.prog 39 #[.pointer (some ⟨g, 0, none⟩), .int .i64 (m : Int)] w (TkRet (IsLt m) g X (k + 2) w) := by
  obtain ⟨a, s, ha, hS⟩ := hS
  have hS0 := Lib.hid hS
  clear hS
  by_cases h200 : 200 < m
  · go_enter Tryz.func39, Tryz.ntmps39
    go_wp2_with fail
    refine (next_any w g X a s hS0.out (by omega)).mono ?_
    rintro e w1 ⟨v, rfl, ⟨x, rfl, hx⟩, ⟨a1, s1, ha1, hS1⟩, hX1⟩
    replace hS1 := Lib.hid hS1
    replace hX1 := Lib.hid hX1
    go_wp2_with fail
    refine (next_any w1 g X a1 s1 hS1.out (by omega)).mono ?_
    rintro e w2 ⟨v, rfl, ⟨y, rfl, hy⟩, hS2, hX2⟩
    replace hS2 := Lib.hid (hS2.mono (show a1 + 1 ≤ k + 2 by omega))
    replace hX2 := Lib.hid (hX1.out.trans hX2)
    clear hX1 hS1
    go_wp2_with fail
    go_ret
    exact tk_lt (Int.emod_nonneg _ (by omega)) (Int.emod_lt_of_pos _ (by omega)) hS2.out hX2.out
  · go_enter Tryz.func39, Tryz.ntmps39
    go_wp2_with fail
    refine (next_any w g X a s hS0.out (by omega)).mono ?_
    rintro e w1 ⟨v, rfl, ⟨x, rfl, hx⟩, hS2, hX2⟩
    replace hS2 := Lib.hid (hS2.mono (show a + 1 ≤ k + 2 by omega))
    replace hX2 := Lib.hid hX2
    go_wp2_with fail
    go_ret
    exact tk_lt (Int.emod_nonneg _ (by omega)) (Int.emod_lt_of_pos _ (by omega)) hS2.out hX2.out
theorem one_any (w : World) (g : Nat) (X : SCx) (k : Nat) (hS : Src w g X k) (hk : k ≤ 100000) (m : Nat) (h2 : 2 ≤ m) (hm : m ≤ 65536) :
    Calls Tryz.prog 51 #[.pointer (some ⟨g, 0, none⟩), .int .i64 (m : Int)] w (TkRet IsBo g X (k + 2) w) := by
  go_enter Tryz.func51, Tryz.ntmps51
  go_wp2_with fail
  refine (pick_any w g X k hS hk m h2 hm).mono ?_
  rintro e w1 ⟨v, rfl, ⟨x, rfl, hx⟩, hS2, hX2⟩
  replace hS2 := Lib.hid hS2
  replace hX2 := Lib.hid hX2
  go_wp2_with fail
  go_ret
  exact ⟨_, rfl, ⟨_, rfl⟩, hS2.out, hX2.out⟩
theorem among_any (w : World) (g : Nat) (X : SCx) (k : Nat) (hS : Src w g X k) (hk : k ≤ 100000) (b m c : Nat) (y : Nat → Nat) (h2 : 2 ≤ m) (hm : m ≤ 100) (hb : b < w.heap.size) (hne : b ≠ g) (hc : ∀ i, i < m → w.cell? ⟨b, i, none⟩ = some (.int .i64 (y i : Int))) :
    Calls Tryz.prog 79 #[.pointer (some ⟨g, 0, none⟩), .slice (some ⟨b, 0, none⟩) m c] w (TkRet (fun v => ∃ i, i < m ∧ v = .int .i64 (y i : Int)) g X (k + 2) w) := by
  have hc' := Lib.hid hc
  clear hc
  go_enter Tryz.func79, Tryz.ntmps79
  go_wp2_with fail
  refine (pick_any w g X k hS hk m h2 (by omega)).mono ?_
  rintro e w1 ⟨v, rfl, ⟨x, rfl, hx⟩, hS2, hX2⟩
  have h1 := (hX2.cell (p := ⟨b, x, none⟩) hb (by intro e; cases e; exact hne rfl)).trans (hc'.out x hx)
  replace hS2 := Lib.hid hS2
  replace hX2 := Lib.hid hX2
  go_wp2_with fail
  go_ret
  exact ⟨_, rfl, ⟨x, hx, rfl⟩, hS2.out, hX2.out⟩
set_option maxHeartbeats 1000000 in
theorem plain_any (w : World) (g : Nat) (X : SCx) (k : Nat) (hS : Src w g X k) (hk : k ≤ 10000) :
    Calls Tryz.prog 78 #[.pointer (some ⟨g, 0, none⟩)] w (TkRet IsFl g X (k + 4) w) := by
  go_enter Tryz.func78, Tryz.ntmps78
  go_wp2_with fail
  refine (pick_any w g X k hS (by omega) 129 (by omega) (by omega)).mono ?_
  rintro e w1 ⟨v, rfl, ⟨x, rfl, hx⟩, hS1, hX1⟩
  replace hX1 := Lib.hid hX1
  go_wp2_with fail
  refine (one_any w1 g X (k + 2) hS1 (by omega) 4 (by omega) (by omega)).mono ?_
  rintro e w2 ⟨v, rfl, ⟨b, rfl⟩, hS2, hX2⟩
  replace hS2 := Lib.hid hS2
  replace hX2 := Lib.hid (hX1.out.trans hX2)
  clear hX1 hS1
  cases b
  all_goals
    go_wp2_with ((with_reducible refine wpList_here ?_); (first | ((with_reducible refine wpList_feq (k := ?_) (bx := ?_) (by' := ?_) (X := ?_) (Y := ?_) ?_ ?_ ?_ ?_ ?_ ?_); rotate_left 5; (first | (with_reducible exact wanted_none) | ((with_reducible refine wanted_some ?_); rfl)); (rfl); (rfl); (first | assumption | ((refine Is.lit ?_); decide +kernel) | (refine Is.ofInt _ _)); (first | assumption | ((refine Is.lit ?_); decide +kernel) | (refine Is.ofInt _ _)); (try simp only [Act.put, List.setIfInBounds_toArray, List.set_cons_succ, List.set_cons_zero, World.drewN_drewN])) | ((with_reducible refine wpList_fne (k := ?_) (bx := ?_) (by' := ?_) (X := ?_) (Y := ?_) ?_ ?_ ?_ ?_ ?_ ?_); rotate_left 5; (first | (with_reducible exact wanted_none) | ((with_reducible refine wanted_some ?_); rfl)); (rfl); (rfl); (first | assumption | ((refine Is.lit ?_); decide +kernel) | (refine Is.ofInt _ _)); (first | assumption | ((refine Is.lit ?_); decide +kernel) | (refine Is.ofInt _ _)); (try simp only [Act.put, List.setIfInBounds_toArray, List.set_cons_succ, List.set_cons_zero, World.drewN_drewN])) | ((with_reducible refine wpList_flt (k := ?_) (bx := ?_) (by' := ?_) (X := ?_) (Y := ?_) ?_ ?_ ?_ ?_ ?_ ?_); rotate_left 5; (first | (with_reducible exact wanted_none) | ((with_reducible refine wanted_some ?_); rfl)); (rfl); (rfl); (first | assumption | ((refine Is.lit ?_); decide +kernel) | (refine Is.ofInt _ _)); (first | assumption | ((refine Is.lit ?_); decide +kernel) | (refine Is.ofInt _ _)); (try simp only [Act.put, List.setIfInBounds_toArray, List.set_cons_succ, List.set_cons_zero, World.drewN_drewN])) | ((with_reducible refine wpList_fle (k := ?_) (bx := ?_) (by' := ?_) (X := ?_) (Y := ?_) ?_ ?_ ?_ ?_ ?_ ?_); rotate_left 5; (first | (with_reducible exact wanted_none) | ((with_reducible refine wanted_some ?_); rfl)); (rfl); (rfl); (first | assumption | ((refine Is.lit ?_); decide +kernel) | (refine Is.ofInt _ _)); (first | assumption | ((refine Is.lit ?_); decide +kernel) | (refine Is.ofInt _ _)); (try simp only [Act.put, List.setIfInBounds_toArray, List.set_cons_succ, List.set_cons_zero, World.drewN_drewN])) | ((with_reducible refine wpList_fgt (k := ?_) (bx := ?_) (by' := ?_) (X := ?_) (Y := ?_) ?_ ?_ ?_ ?_ ?_ ?_); rotate_left 5; (first | (with_reducible exact wanted_none) | ((with_reducible refine wanted_some ?_); rfl)); (rfl); (rfl); (first | assumption | ((refine Is.lit ?_); decide +kernel) | (refine Is.ofInt _ _)); (first | assumption | ((refine Is.lit ?_); decide +kernel) | (refine Is.ofInt _ _)); (try simp only [Act.put, List.setIfInBounds_toArray, List.set_cons_succ, List.set_cons_zero, World.drewN_drewN])) | ((with_reducible refine wpList_fge (k := ?_) (bx := ?_) (by' := ?_) (X := ?_) (Y := ?_) ?_ ?_ ?_ ?_ ?_ ?_); rotate_left 5; (first | (with_reducible exact wanted_none) | ((with_reducible refine wanted_some ?_); rfl)); (rfl); (rfl); (first | assumption | ((refine Is.lit ?_); decide +kernel) | (refine Is.ofInt _ _)); (first | assumption | ((refine Is.lit ?_); decide +kernel) | (refine Is.ofInt _ _)); (try simp only [Act.put, List.setIfInBounds_toArray, List.set_cons_succ, List.set_cons_zero, World.drewN_drewN])) | ((with_reducible refine wpList_fadd (k := ?_) (bx := ?_) (by' := ?_) (X := ?_) (Y := ?_) ?_ ?_ ?_ ?_ ?_ ?_); rotate_left 5; (first | (with_reducible exact wanted_none) | ((with_reducible refine wanted_some ?_); rfl)); (rfl); (rfl); (first | assumption | ((refine Is.lit ?_); decide +kernel) | (refine Is.ofInt _ _)); (first | assumption | ((refine Is.lit ?_); decide +kernel) | (refine Is.ofInt _ _)); (intro r nd hr); (try simp only [Act.put, List.setIfInBounds_toArray, List.set_cons_succ, List.set_cons_zero, World.drewN_drewN])) | ((with_reducible refine wpList_fsub (k := ?_) (bx := ?_) (by' := ?_) (X := ?_) (Y := ?_) ?_ ?_ ?_ ?_ ?_ ?_); rotate_left 5; (first | (with_reducible exact wanted_none) | ((with_reducible refine wanted_some ?_); rfl)); (rfl); (rfl); (first | assumption | ((refine Is.lit ?_); decide +kernel) | (refine Is.ofInt _ _)); (first | assumption | ((refine Is.lit ?_); decide +kernel) | (refine Is.ofInt _ _)); (intro r nd hr); (try simp only [Act.put, List.setIfInBounds_toArray, List.set_cons_succ, List.set_cons_zero, World.drewN_drewN])) | ((with_reducible refine wpList_fmul (k := ?_) (bx := ?_) (by' := ?_) (X := ?_) (Y := ?_) ?_ ?_ ?_ ?_ ?_ ?_); rotate_left 5; (first | (with_reducible exact wanted_none) | ((with_reducible refine wanted_some ?_); rfl)); (rfl); (rfl); (first | assumption | ((refine Is.lit ?_); decide +kernel) | (refine Is.ofInt _ _)); (first | assumption | ((refine Is.lit ?_); decide +kernel) | (refine Is.ofInt _ _)); (intro r nd hr); (try simp only [Act.put, List.setIfInBounds_toArray, List.set_cons_succ, List.set_cons_zero, World.drewN_drewN])) | ((with_reducible refine wpList_fquo (k := ?_) (bx := ?_) (by' := ?_) (X := ?_) (Y := ?_) ?_ ?_ ?_ ?_ ?_ ?_); rotate_left 5; (first | (with_reducible exact wanted_none) | ((with_reducible refine wanted_some ?_); rfl)); (rfl); (rfl); (first | assumption | ((refine Is.lit ?_); decide +kernel) | (refine Is.ofInt _ _)); (first | assumption | ((refine Is.lit ?_); decide +kernel) | (refine Is.ofInt _ _)); (intro r nd hr); (try simp only [Act.put, List.setIfInBounds_toArray, List.set_cons_succ, List.set_cons_zero, World.drewN_drewN]))))
    go_ret
    exact ⟨_, rfl, ⟨_, _, rfl, by assumption⟩, hS2.out.bel ((Bel.refl _).drewN _), hX2.out.trans (BelX.of ((Bel.refl _).drewN _))⟩
end Go.Proofs.YtianaalokclklaaGreatDoor
end

/-
  CONTRACTS: a number drawn; rows of numbers drawn.
-/
section
set_option linter.unusedSimpArgs false
set_option linter.unusedVariables false
namespace Go.Proofs.YtianaalokclklaaGreatDoor
open Go.RowKit Go.Fl

theorem lits_at (L : List Nat) (T : TypeId) (w : World) {i : Nat} (hi : i < L.length) : (w.alloc (.cells (L.map fun x : Nat => Value.int .i64 (x : Int)).toArray T)).cell? ⟨w.heap.size, i, none⟩ = some (.int .i64 ((L.getD i 0 : Nat) : Int)) := by
  rw [World.cell?_alloc_at _ _ _ _ rfl]
  simp [hi, List.getD_eq_getElem?_getD]
theorem src_lt {w : World} {g : Nat} {X : SCx} {k : Nat} (h : Src w g X k) : g < w.heap.size := by obtain ⟨a, s, _, h⟩ := h; exact h.lt
def lits10 : List Nat := [0, 2147483648, 2139095040, 4286578688, 2143289344, 1, 2139095039, 8388608, 8388607, 2147483649]
def lits4 : List Nat := [8388608, 2130706432, 1610612736, 536870912]
theorem lits10_lt : ∀ i : Fin 10, lits10.getD i.val 0 < 4294967296 := by decide
theorem lits4_lt : ∀ i : Fin 4, lits4.getD i.val 0 < 4294967296 := by decide
theorem is_word {x : Nat} (h : x < 4294967296) : Is .f32 x (cn .f32 x) := ⟨by rw [w32]; exact h, rfl⟩
set_option maxRecDepth 100000 in
set_option maxHeartbeats 2000000 in
theorem float_any (w : World) (g : Nat) (X : SCx) (k : Nat) (hS : Src w g X k) (hk : k ≤ 5000) :
    Calls Tryz.prog 53 #[.pointer (some ⟨g, 0, none⟩)] w (TkRet IsFl g X (k + 12) w) := by
  go_enter Tryz.func53, Tryz.ntmps53
  go_wp2_with fail
  refine (one_any w g X k hS (by omega) 12 (by omega) (by omega)).mono ?_
  rintro e w1 ⟨v, rfl, ⟨b, rfl⟩, hS1, hX1⟩
  replace hX1 := Lib.hid hX1
  replace hS1 := Lib.hid hS1
  cases b with
  | false =>
    go_wp2_with fail
    refine (plain_any w1 g X (k + 2) hS1.out (by omega)).mono ?_
    rintro e w2 ⟨v, rfl, ⟨r, R, rfl, hr⟩, hS2, hX2⟩
    replace hS2 := Lib.hid (hS2.mono (show k + 2 + 4 ≤ k + 12 by omega))
    replace hX2 := Lib.hid (hX1.out.trans hX2)
    replace hr := Lib.hid hr
    go_wp2_with fail
    go_ret
    exact ⟨_, rfl, ⟨_, _, rfl, hr.out⟩, hS2.out, hX2.out⟩
  | true =>
    go_wp2_with fail
    refine (pick_any w1 g X (k + 2) hS1.out (by omega) 4 (by omega) (by omega)).mono ?_
    rintro e w2 ⟨v, rfl, ⟨x, rfl, hx⟩, hS2, hX2⟩
    replace hS2 := Lib.hid hS2
    replace hX2 := Lib.hid (hX1.out.trans hX2)
    clear hX1 hS1
    obtain rfl | rfl | rfl | rfl : x = 0 ∨ x = 1 ∨ x = 2 ∨ x = 3 := by omega
    · have hS3 := Lib.hid (hS2.out.bel ((Bel.refl w2).alloc (.cells (lits10.map fun x : Nat => Value.int .i64 (x : Int)).toArray 2)))
      have hX3 := Lib.hid (hX2.out.trans (BelX.of ((Bel.refl w2).alloc (.cells (lits10.map fun x : Nat => Value.int .i64 (x : Int)).toArray 2))))
      have hlt := Lib.hid (src_lt hS2.out)
      go_wp2_with fail
      refine (among_any _ g X (k + 2 + 2) hS3.out (by omega) w2.heap.size 10 10 (fun i => lits10.getD i 0) (by omega) (by omega) (by simp) (by have := hlt.out; omega) (fun i hi => lits_at lits10 2 w2 hi)).mono ?_
      rintro e w3 ⟨v, rfl, ⟨i, hi, rfl⟩, hS4, hX4⟩
      replace hS4 := Lib.hid (hS4.mono (show k + 2 + 2 + 2 ≤ k + 12 by omega))
      replace hX4 := Lib.hid (hX3.out.trans hX4)
      obtain ⟨V, hV⟩ : ∃ V, V = lits10.getD i 0 := ⟨_, rfl⟩
      have hVl : V < 4294967296 := by rw [hV]; exact lits10_lt ⟨i, hi⟩
      simp only [← hV]
      replace hV := Lib.hid hV
      clear hS3 hX3 hlt
      go_wp2_with fail
      refine (l01From_any V hVl _).mono ?_
      rintro e w' ⟨rfl, rfl⟩
      go_wp2_with fail
      go_ret
      exact ⟨_, rfl, ⟨_, _, rfl, is_word hVl⟩, hS4.out, hX4.out⟩
    · go_wp2_with fail
      refine (pick_any w2 g X (k + 2 + 2) hS2.out (by omega) 65536 (by omega) (by omega)).mono ?_
      rintro e w3 ⟨v, rfl, ⟨x, rfl, hx⟩, hS3, hX3⟩
      replace hS3 := Lib.hid hS3
      replace hX3 := Lib.hid (hX2.out.trans hX3)
      go_wp2_with fail
      refine (pick_any w3 g X (k + 2 + 2 + 2) hS3.out (by omega) 65536 (by omega) (by omega)).mono ?_
      rintro e w4 ⟨v, rfl, ⟨y, rfl, hy⟩, hS4, hX4⟩
      replace hS4 := Lib.hid (hS4.mono (show k + 2 + 2 + 2 + 2 ≤ k + 12 by omega))
      replace hX4 := Lib.hid (hX3.out.trans hX4)
      go_wp2_with fail
      refine (l01From_any (x * 65536 + y) (by omega) _).mono ?_
      rintro e w' ⟨rfl, rfl⟩
      go_wp2_with fail
      go_ret
      exact ⟨_, rfl, ⟨_, _, rfl, is_word (by omega)⟩, hS4.out, hX4.out⟩
    · go_wp2_with fail
      refine (pick_any w2 g X (k + 2 + 2) hS2.out (by omega) 65536 (by omega) (by omega)).mono ?_
      rintro e w3 ⟨v, rfl, ⟨x, rfl, hx⟩, hS3, hX3⟩
      replace hS3 := Lib.hid (hS3.mono (show k + 2 + 2 + 2 ≤ k + 12 by omega))
      replace hX3 := Lib.hid (hX2.out.trans hX3)
      go_wp2_with fail
      refine (l01From_any (x * 65536) (by omega) _).mono ?_
      rintro e w' ⟨rfl, rfl⟩
      go_wp2_with fail
      go_ret
      exact ⟨_, rfl, ⟨_, _, rfl, is_word (by omega)⟩, hS3.out, hX3.out⟩
    · go_wp2_with fail
      refine (plain_any w2 g X (k + 2 + 2) hS2.out (by omega)).mono ?_
      rintro e w3 ⟨v, rfl, ⟨r, R, rfl, hr⟩, hS3, hX3⟩
      have hS4 := Lib.hid (hS3.bel ((Bel.refl w3).alloc (.cells (lits4.map fun x : Nat => Value.int .i64 (x : Int)).toArray 2)))
      have hX4 := Lib.hid ((hX2.out.trans hX3).trans (BelX.of ((Bel.refl w3).alloc (.cells (lits4.map fun x : Nat => Value.int .i64 (x : Int)).toArray 2))))
      have hlt := Lib.hid (src_lt hS3)
      clear hS3 hX3
      go_wp2_with fail
      refine (among_any _ g X (k + 2 + 2 + 4) hS4.out (by omega) w3.heap.size 4 4 (fun i => lits4.getD i 0) (by omega) (by omega) (by simp) (by have := hlt.out; omega) (fun i hi => lits_at lits4 2 w3 hi)).mono ?_
      rintro e w4 ⟨v, rfl, ⟨i, hi, rfl⟩, hS5, hX5⟩
      replace hS5 := Lib.hid (hS5.mono (show k + 2 + 2 + 4 + 2 ≤ k + 12 by omega))
      replace hX5 := Lib.hid (hX4.out.trans hX5)
      obtain ⟨V, hV⟩ : ∃ V, V = lits4.getD i 0 := ⟨_, rfl⟩
      have hVl : V < 4294967296 := by rw [hV]; exact lits4_lt ⟨i, hi⟩
      simp only [← hV]
      replace hV := Lib.hid hV
      clear hS4 hX4 hlt
      go_wp2_with fail
      refine (l01From_any V hVl _).mono ?_
      rintro e w' ⟨rfl, rfl⟩
      have hVi := is_word hVl
      go_wp2_with ((with_reducible refine wpList_here ?_); (first | ((with_reducible refine wpList_feq (k := ?_) (bx := ?_) (by' := ?_) (X := ?_) (Y := ?_) ?_ ?_ ?_ ?_ ?_ ?_); rotate_left 5; (first | (with_reducible exact wanted_none) | ((with_reducible refine wanted_some ?_); rfl)); (rfl); (rfl); (first | assumption | ((refine Is.lit ?_); decide +kernel) | (refine Is.ofInt _ _)); (first | assumption | ((refine Is.lit ?_); decide +kernel) | (refine Is.ofInt _ _)); (try simp only [Act.put, List.setIfInBounds_toArray, List.set_cons_succ, List.set_cons_zero, World.drewN_drewN])) | ((with_reducible refine wpList_fne (k := ?_) (bx := ?_) (by' := ?_) (X := ?_) (Y := ?_) ?_ ?_ ?_ ?_ ?_ ?_); rotate_left 5; (first | (with_reducible exact wanted_none) | ((with_reducible refine wanted_some ?_); rfl)); (rfl); (rfl); (first | assumption | ((refine Is.lit ?_); decide +kernel) | (refine Is.ofInt _ _)); (first | assumption | ((refine Is.lit ?_); decide +kernel) | (refine Is.ofInt _ _)); (try simp only [Act.put, List.setIfInBounds_toArray, List.set_cons_succ, List.set_cons_zero, World.drewN_drewN])) | ((with_reducible refine wpList_flt (k := ?_) (bx := ?_) (by' := ?_) (X := ?_) (Y := ?_) ?_ ?_ ?_ ?_ ?_ ?_); rotate_left 5; (first | (with_reducible exact wanted_none) | ((with_reducible refine wanted_some ?_); rfl)); (rfl); (rfl); (first | assumption | ((refine Is.lit ?_); decide +kernel) | (refine Is.ofInt _ _)); (first | assumption | ((refine Is.lit ?_); decide +kernel) | (refine Is.ofInt _ _)); (try simp only [Act.put, List.setIfInBounds_toArray, List.set_cons_succ, List.set_cons_zero, World.drewN_drewN])) | ((with_reducible refine wpList_fle (k := ?_) (bx := ?_) (by' := ?_) (X := ?_) (Y := ?_) ?_ ?_ ?_ ?_ ?_ ?_); rotate_left 5; (first | (with_reducible exact wanted_none) | ((with_reducible refine wanted_some ?_); rfl)); (rfl); (rfl); (first | assumption | ((refine Is.lit ?_); decide +kernel) | (refine Is.ofInt _ _)); (first | assumption | ((refine Is.lit ?_); decide +kernel) | (refine Is.ofInt _ _)); (try simp only [Act.put, List.setIfInBounds_toArray, List.set_cons_succ, List.set_cons_zero, World.drewN_drewN])) | ((with_reducible refine wpList_fgt (k := ?_) (bx := ?_) (by' := ?_) (X := ?_) (Y := ?_) ?_ ?_ ?_ ?_ ?_ ?_); rotate_left 5; (first | (with_reducible exact wanted_none) | ((with_reducible refine wanted_some ?_); rfl)); (rfl); (rfl); (first | assumption | ((refine Is.lit ?_); decide +kernel) | (refine Is.ofInt _ _)); (first | assumption | ((refine Is.lit ?_); decide +kernel) | (refine Is.ofInt _ _)); (try simp only [Act.put, List.setIfInBounds_toArray, List.set_cons_succ, List.set_cons_zero, World.drewN_drewN])) | ((with_reducible refine wpList_fge (k := ?_) (bx := ?_) (by' := ?_) (X := ?_) (Y := ?_) ?_ ?_ ?_ ?_ ?_ ?_); rotate_left 5; (first | (with_reducible exact wanted_none) | ((with_reducible refine wanted_some ?_); rfl)); (rfl); (rfl); (first | assumption | ((refine Is.lit ?_); decide +kernel) | (refine Is.ofInt _ _)); (first | assumption | ((refine Is.lit ?_); decide +kernel) | (refine Is.ofInt _ _)); (try simp only [Act.put, List.setIfInBounds_toArray, List.set_cons_succ, List.set_cons_zero, World.drewN_drewN])) | ((with_reducible refine wpList_fadd (k := ?_) (bx := ?_) (by' := ?_) (X := ?_) (Y := ?_) ?_ ?_ ?_ ?_ ?_ ?_); rotate_left 5; (first | (with_reducible exact wanted_none) | ((with_reducible refine wanted_some ?_); rfl)); (rfl); (rfl); (first | assumption | ((refine Is.lit ?_); decide +kernel) | (refine Is.ofInt _ _)); (first | assumption | ((refine Is.lit ?_); decide +kernel) | (refine Is.ofInt _ _)); (intro r nd hr); (try simp only [Act.put, List.setIfInBounds_toArray, List.set_cons_succ, List.set_cons_zero, World.drewN_drewN])) | ((with_reducible refine wpList_fsub (k := ?_) (bx := ?_) (by' := ?_) (X := ?_) (Y := ?_) ?_ ?_ ?_ ?_ ?_ ?_); rotate_left 5; (first | (with_reducible exact wanted_none) | ((with_reducible refine wanted_some ?_); rfl)); (rfl); (rfl); (first | assumption | ((refine Is.lit ?_); decide +kernel) | (refine Is.ofInt _ _)); (first | assumption | ((refine Is.lit ?_); decide +kernel) | (refine Is.ofInt _ _)); (intro r nd hr); (try simp only [Act.put, List.setIfInBounds_toArray, List.set_cons_succ, List.set_cons_zero, World.drewN_drewN])) | ((with_reducible refine wpList_fmul (k := ?_) (bx := ?_) (by' := ?_) (X := ?_) (Y := ?_) ?_ ?_ ?_ ?_ ?_ ?_); rotate_left 5; (first | (with_reducible exact wanted_none) | ((with_reducible refine wanted_some ?_); rfl)); (rfl); (rfl); (first | assumption | ((refine Is.lit ?_); decide +kernel) | (refine Is.ofInt _ _)); (first | assumption | ((refine Is.lit ?_); decide +kernel) | (refine Is.ofInt _ _)); (intro r nd hr); (try simp only [Act.put, List.setIfInBounds_toArray, List.set_cons_succ, List.set_cons_zero, World.drewN_drewN])) | ((with_reducible refine wpList_fquo (k := ?_) (bx := ?_) (by' := ?_) (X := ?_) (Y := ?_) ?_ ?_ ?_ ?_ ?_ ?_); rotate_left 5; (first | (with_reducible exact wanted_none) | ((with_reducible refine wanted_some ?_); rfl)); (rfl); (rfl); (first | assumption | ((refine Is.lit ?_); decide +kernel) | (refine Is.ofInt _ _)); (first | assumption | ((refine Is.lit ?_); decide +kernel) | (refine Is.ofInt _ _)); (intro r nd hr); (try simp only [Act.put, List.setIfInBounds_toArray, List.set_cons_succ, List.set_cons_zero, World.drewN_drewN]))))
      go_ret
      exact ⟨_, rfl, ⟨_, _, rfl, by assumption⟩, hS5.out.bel ((Bel.refl _).drewN _), hX5.out.trans (BelX.of ((Bel.refl _).drewN _))⟩
end Go.Proofs.YtianaalokclklaaGreatDoor
end

/-
  CONTRACTS: rows of numbers drawn.
-/
section
set_option linter.unusedSimpArgs false
set_option linter.unusedVariables false
namespace Go.Proofs.YtianaalokclklaaGreatDoor
open Go.RowKit Go.Fl

/-- a row of 32-bit numbers in blocks from the world 'w' on -/
def GRw (w wr : World) (v : Value) (xs : List Nat) : Prop := ∃ g cap, v = .slice (some ⟨g, 0, none⟩) xs.length cap ∧ wr.ownsRow w.heap.size 28 1 v xs.length (flts xs)
theorem GRw.belx {w wr w1 : World} {v : Value} {xs : List Nat} {b : Nat} (h : GRw w wr v xs) (hX : BelX (some b) wr w1) (hb : b < w.heap.size) : GRw w w1 v xs := by
  obtain ⟨g, cap, rfl, h1⟩ := h
  exact ⟨g, cap, rfl, own_belx h1 hX (by intro j hj; cases hj; exact hb)⟩
theorem GRw.start (w wr : World) (hb : w.heap.size ≤ wr.heap.size) : GRw w (wr.alloc (.cells #[] 28)) (.slice (some ⟨wr.heap.size, 0, none⟩) 0 0) [] :=
  ⟨_, _, rfl, World.ownsRow_made wr #[] 0 hb (by unfold maxLen; omega) rfl⟩
theorem GRw.next {w wr w2 : World} {v v2 : Value} {xs : List Nat} {x : Nat} {o : Obj} (h : GRw w wr v xs) (hs : w.heap.size ≤ wr.heap.size) (hown : w2.ownsRow w.heap.size 28 1 v2 (xs.length + 1) (flts xs ++ [.float .f32 x])) (hg : (wr.alloc o).grownBy w2 v.ownBlock) : GRw w w2 v2 (xs ++ [x]) ∧ Below w.heap.size wr w2 := by
  obtain ⟨g, cap, rfl, h1⟩ := h
  have e : flts xs ++ [.float .f32 x] = flts (xs ++ [x]) := by simp [flts]
  have e2 : xs.length + 1 = (xs ++ [x]).length := by simp
  rw [e] at hown
  obtain ⟨g2, cap2, rfl⟩ := own_succ hown
  have hb : Below w.heap.size (wr.alloc o) w2 := (Below.refl _ _).grown hg (by simp; omega) (own_row h1)
  exact ⟨⟨g2, cap2, by rw [e2], by rw [← e2]; exact hown⟩, Below.trans ((Below.refl _ wr).alloc hs o) hb⟩
theorem GRw.done {w wr : World} {v : Value} {xs : List Nat} (h : GRw w wr v xs) (hz : ∀ i, i < xs.length → xs.getD i 0 < 4294967296) : ∃ ao c, v = .slice ao xs.length c ∧ ORow w.heap.size wr.heap.size wr ao xs.length xs := by
  obtain ⟨g, cap, rfl, h1⟩ := h
  refine ⟨_, cap, rfl, ⟨rfl, fun hn => ⟨g, 0, rfl, (World.ownsRow.lt h1 g rfl).2, fun i hi => ?_⟩, hz⟩, fun a ha => ?_⟩
  · have := World.ownsRow.cells h1 rfl i _ (show (flts xs)[i]? = some (.float .f32 (xs.getD i 0)) by simp [flts, hi, List.getD_eq_getElem?_getD])
    rw [Nat.zero_add]
    unfold Addr.add at this
    simp at this
    split at this
    · rename_i h0; rw [h0]; rw [h0] at this; exact this
    · exact this
  · cases ha
    rcases h1.2 with ⟨e, _⟩ | ⟨g2, cap2, cur, e, hb, h3, _⟩
    · cases e
    · cases e
      have hl := (Array.getElem?_eq_some_iff.1 h3).1
      exact ⟨hb, hl, hl, cells_free h3⟩
def Words (xs : List Nat) : Prop := ∀ i, i < xs.length → xs.getD i 0 < 4294967296
theorem Words.next {xs : List Nat} {x X : Nat} (h : Words xs) (hx : Is .f32 x X) : Words (xs ++ [x]) := by
  intro i hi
  have hx1 := hx.1
  rw [w32] at hx1
  by_cases hlt : i < xs.length
  · have := h i hlt
    rw [List.getD_eq_getElem?_getD] at this ⊢
    rw [List.getElem?_append_left hlt]
    exact this
  · have : i = xs.length := by simp at hi; omega
    subst this
    rw [List.getD_eq_getElem?_getD, List.getElem?_append_right (Nat.le_refl _), Nat.sub_self]
    exact hx1
/-- the loop's state: what is drawn, what is left -/
structure DrS (w wr : World) (g : Nat) (X : SCx) (k : Nat) (v : Value) (xs : List Nat) : Prop where
  row : GRw w wr v xs
  src : Src wr g X (k + 12 * xs.length)
  bel : BelX (some g) w wr
  ws : Words xs
theorem DrS.step {w wr w1 : World} {g : Nat} {X : SCx} {k j : Nat} {v : Value} {xs : List Nat} (h : DrS w wr g X k v xs) (hg : g < w.heap.size) (hS : Src w1 g X j) (hj : j ≤ k + 12 * (xs.length + 1)) (hX : BelX (some g) wr w1) :
    GRw w w1 v xs ∧ Src w1 g X (k + 12 * (xs.length + 1)) ∧ BelX (some g) w w1 := ⟨h.row.belx hX hg, hS.mono hj, h.bel.trans hX⟩
theorem DrS.put {w w1 w2 : World} {g : Nat} {X : SCx} {k x Z : Nat} {v v2 : Value} {xs : List Nat} {o : Obj} (h : GRw w w1 v xs ∧ Src w1 g X (k + 12 * (xs.length + 1)) ∧ BelX (some g) w w1) (hg : g < w.heap.size) (hx : Is .f32 x Z) (hws : Words xs)
    (hown : w2.ownsRow w.heap.size 28 1 v2 (xs.length + 1) (flts xs ++ [.float .f32 x])) (hgr : (w1.alloc o).grownBy w2 v.ownBlock) : DrS w w2 g X k v2 (xs ++ [x]) := by
  obtain ⟨h1, h2, h3⟩ := h
  obtain ⟨g1, g2⟩ := h1.next h3.size hown hgr
  refine ⟨g1, ?_, h3.below' g2, hws.next hx⟩
  have e : (xs ++ [x]).length = xs.length + 1 := by simp
  rw [e]
  exact h2.below hg g2
/-- what a call has done that drew a row -/
def TkRow (N : Nat) (g : Nat) (X : SCx) (w : World) (e : Ending) (w' : World) : Prop := ∃ xs ao c, e = .returned (.slice ao N c) ∧ ORow w.heap.size w'.heap.size w' ao N xs ∧ BelX (some g) w w'
set_option maxRecDepth 100000 in
set_option maxHeartbeats 2000000 in
theorem floats_any (w : World) (g : Nat) (X : SCx) (hS : Src w g X 0) (N : Nat) (hN : N ≤ 100) :
    Calls Tryz.prog 64 #[.pointer (some ⟨g, 0, none⟩), .int .i64 (N : Int)] w (TkRow N g X w) := by
  obtain ⟨i0, hi0, hz0, hz1, hz2⟩ := info_parts infoF32
  have hg := Lib.hid (src_lt hS)
  have hS0 := Lib.hid (hS.bel ((Bel.refl w).alloc (.cells #[] 28)))
  clear hS
  go_enter Tryz.func64, Tryz.ntmps64
  go_wp2_with fail
  refine (one_any _ g X 0 hS0.out (by omega) 4 (by omega) (by omega)).mono ?_
  rintro e w1 ⟨v, rfl, ⟨b, rfl⟩, hS1, hX1⟩
  have hD := Lib.hid (show DrS w w1 g X 2 (.slice (some ⟨w.heap.size, 0, none⟩) 0 0) [] from
    ⟨(GRw.start w w (Nat.le_refl _)).belx hX1 hg.out, hS1, (BelX.of ((Bel.refl w).alloc _)).trans hX1, fun i hi => absurd hi (by simp)⟩)
  clear hS1 hX1 hS0
  go_wp2_with fail
  go_loopw [1, 5] (fun nv v wr => ∃ (j : Nat) (xs : List Nat), nv = .int .i64 (j : Int) ∧ xs.length + j = N ∧ Hid (DrS w wr g X 2 v xs)) (fun nv _ _ => (intOf nv).toNat)
  case atStart => exact ⟨N, [], rfl, by simp, hD⟩
  case round =>
    obtain ⟨j, xs, rfl, hj, hS⟩ := hrel
    obtain ⟨⟨g1, cap, rfl, _⟩, _, _, _⟩ := hS.out
    by_cases hlt : 0 < j
    · obtain ⟨i, rfl⟩ : ∃ i, j = i + 1 := ⟨j - 1, by omega⟩
      cases b with
      | true =>
        go_wp2_with fail
        refine (float_any wr g X _ hS.out.src (by omega)).mono ?_
        rintro e w2 ⟨v, rfl, ⟨r, R, rfl, hr⟩, hS2, hX2⟩
        have hT := Lib.hid (hS.out.step hg.out hS2 (by omega) hX2)
        replace hr := Lib.hid hr
        clear hS2 hX2
        obtain ⟨⟨_, _, hvv, hown⟩, _, hbx⟩ := hT.out
        cases hvv
        have hbs := hbx.size
        clear hbx
        go_wp2_with (at_builtin; refine wpList_app1 rfl _ _ 52 rfl w.heap.size 28 i0 _ 4 Tryz.underlying52 hi0 hz0 hz1 hz2 rfl (.slice (some ⟨g1, 0, none⟩) xs.length cap) xs.length _ rfl hown rfl rfl (by omega) (by unfold maxLen; omega) hbs ?_; intro v2 w3 hown2 hgrow)
        have hN2 := Lib.hid (DrS.put hT.out hg.out hr.out hS.out.ws hown2 hgrow)
        clear hown2 hgrow hown
        go_wp2_with fail
        refine ⟨⟨i, xs ++ [r], by simp, by simp; omega, hN2⟩, ?_⟩
        show ((i : Nat) : Int).toNat < ((i + 1 : Nat) : Int).toNat
        omega
      | false =>
        go_wp2_with fail
        refine (plain_any wr g X _ hS.out.src (by omega)).mono ?_
        rintro e w2 ⟨v, rfl, ⟨r, R, rfl, hr⟩, hS2, hX2⟩
        have hT := Lib.hid (hS.out.step hg.out hS2 (by omega) hX2)
        replace hr := Lib.hid hr
        clear hS2 hX2
        obtain ⟨⟨_, _, hvv, hown⟩, _, hbx⟩ := hT.out
        cases hvv
        have hbs := hbx.size
        clear hbx
        go_wp2_with (at_builtin; refine wpList_app1 rfl _ _ 52 rfl w.heap.size 28 i0 _ 4 Tryz.underlying52 hi0 hz0 hz1 hz2 rfl (.slice (some ⟨g1, 0, none⟩) xs.length cap) xs.length _ rfl hown rfl rfl (by omega) (by unfold maxLen; omega) hbs ?_; intro v2 w3 hown2 hgrow)
        have hN2 := Lib.hid (DrS.put hT.out hg.out hr.out hS.out.ws hown2 hgrow)
        clear hown2 hgrow hown
        go_wp2_with fail
        refine ⟨⟨i, xs ++ [r], by simp, by simp; omega, hN2⟩, ?_⟩
        show ((i : Nat) : Int).toNat < ((i + 1 : Nat) : Int).toNat
        omega
    · obtain rfl : j = 0 := by omega
      obtain ⟨ao, c2, he, hO⟩ := hS.out.row.done hS.out.ws
      have hO' := Lib.hid hO
      have hB' := Lib.hid hS.out.bel
      cases he
      have hl : xs.length = N := by omega
      rw [hl] at hO'
      clear hO
      go_wp2_with fail
      go_ret
      exact ⟨xs, _, cap, congrArg (fun k => Ending.returned (.slice (some ⟨g1, 0, none⟩) k cap)) hl, hO'.out, hB'.out⟩
/-- what a call has done that drew a number -/
def FlRet (w : World) (e : Ending) (w' : World) : Prop := ∃ r Z, e = .returned (.float .f32 r) ∧ Is .f32 r Z ∧ Bel w w'
set_option maxHeartbeats 1000000 in
theorem b10Number_any (w : World) (ao : Option Addr) (n c : Nat) (z : Nat → Int) (hA : IRow .u8 w ao n z) (hn : n ≤ 1048576) : Calls Tryz.prog 19 #[.slice ao n c] w (FlRet w) := by
  go_enter Tryz.func19, Tryz.ntmps19
  go_wp2_with fail
  refine (l00From_any w ao n c z hA hn).mono ?_
  rintro e w1 ⟨rfl, hS1, hB1⟩
  replace hS1 := Lib.hid hS1
  replace hB1 := Lib.hid hB1
  clear hA
  go_wp2_with fail
  refine (one_any w1 _ _ 0 hS1.out (by omega) 2 (by omega) (by omega)).mono ?_
  rintro e w2 ⟨v, rfl, ⟨b, rfl⟩, hS2, hX2⟩
  replace hS2 := Lib.hid hS2
  replace hX2 := Lib.hid hX2
  clear hS1
  cases b with
  | true =>
    go_wp2_with fail
    refine (pick_any w2 _ _ _ hS2.out (by omega) 65536 (by omega) (by omega)).mono ?_
    rintro e w3 ⟨v, rfl, ⟨x, rfl, hx⟩, hS3, hX3⟩
    replace hS3 := Lib.hid hS3
    replace hX3 := Lib.hid (hX2.out.trans hX3)
    clear hS2 hX2
    go_wp2_with fail
    refine (pick_any w3 _ _ _ hS3.out (by omega) 65536 (by omega) (by omega)).mono ?_
    rintro e w4 ⟨v, rfl, ⟨y, rfl, hy⟩, hS4, hX4⟩
    have hB4 := Lib.hid (belx_bel hB1.out (hX3.out.trans hX4) (Nat.le_refl _))
    clear hS3 hX3 hS4 hX4
    go_wp2_with fail
    refine (l01From_any (x * 65536 + y) (by omega) _).mono ?_
    rintro e w' ⟨rfl, rfl⟩
    go_wp2_with fail
    go_ret
    exact ⟨_, _, rfl, is_word (by omega), hB4.out⟩
  | false =>
    go_wp2_with fail
    refine (float_any w2 _ _ _ hS2.out (by omega)).mono ?_
    rintro e w3 ⟨v, rfl, ⟨r, R, rfl, hr⟩, hS3, hX3⟩
    have hB4 := Lib.hid (belx_bel hB1.out (hX2.out.trans hX3) (Nat.le_refl _))
    replace hr := Lib.hid hr
    clear hX2 hS3 hX3
    go_wp2_with fail
    go_ret
    exact ⟨_, _, rfl, hr.out, hB4.out⟩
/-- what a call has done that drew a row of numbers -/
def RowRet (N : Nat) (w : World) (e : Ending) (w' : World) : Prop := ∃ xs ao c, e = .returned (.slice ao N c) ∧ ORow w.heap.size w'.heap.size w' ao N xs ∧ Bel w w'
theorem b10Numbers_any (w : World) (ao : Option Addr) (n c : Nat) (z : Nat → Int) (hA : IRow .u8 w ao n z) (hn : n ≤ 1048576) (N : Nat) (hN : N ≤ 100) : Calls Tryz.prog 29 #[.slice ao n c, .int .i64 (N : Int)] w (RowRet N w) := by
  go_enter Tryz.func29, Tryz.ntmps29
  go_wp2_with fail
  refine (l00From_any w ao n c z hA hn).mono ?_
  rintro e w1 ⟨rfl, hS1, hB1⟩
  replace hS1 := Lib.hid hS1
  replace hB1 := Lib.hid hB1
  clear hA
  go_wp2_with fail
  refine (floats_any w1 _ _ hS1.out N hN).mono ?_
  rintro e w2 ⟨xs, bo, d, rfl, hO, hX⟩
  have hO' := Lib.hid (hO.mono hB1.out.size (Nat.le_refl _))
  have hB4 := Lib.hid (belx_bel hB1.out hX (Nat.le_refl _))
  clear hO hX
  go_wp2_with fail
  go_ret
  exact ⟨xs, _, _, rfl, hO'.out, hB4.out⟩
end Go.Proofs.YtianaalokclklaaGreatDoor
end
