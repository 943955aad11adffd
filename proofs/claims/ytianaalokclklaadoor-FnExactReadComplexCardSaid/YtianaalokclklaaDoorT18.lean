/-
  THE LAW 'FnExactReadComplex': complex numbers read, the program's; the law's walk.
-/
import Derived.Test.YtianaalokclklaaDoorT17
set_option linter.unusedSimpArgs false
set_option linter.unusedVariables false
namespace Go.Proofs.YtianaalokclklaaDoor
open Go.RowKit Go.Fl

set_option maxRecDepth 100000 in
set_option maxHeartbeats 4000000 in
theorem iReadComplex_any (w : World) (l : List UInt8) (hl : l.length ≤ 1048576) (he : Errs w) (ht : Tz w) (hM : MaxL w) : Calls Tryd.prog 31 #[.string ⟨l.toArray⟩] w (RCRet l w) := by
  obtain ⟨i0, hi0, hz0, hz1, hz2⟩ := info_parts infoC64
  have hF := Lib.hid (show Errs w ∧ Tz w from ⟨he, ht⟩)
  have hM1 := Lib.hid hM
  clear he ht hM
  cases hq : noneB l with
  | true =>
    have hb := Lib.hid (show rcB l = true by unfold rcB; rw [hq]; rfl)
    have hN := Lib.hid (show rcN l = 0 by unfold rcN; rw [hq, Bool.not_true, Bool.and_false]; rfl)
    obtain rfl : l = [110, 111, 110, 101] := by unfold noneB at hq; simpa using hq
    clear hq
    go_enter Tryd.func31, Tryd.ntmps31
    go_wp2_with fail
    refine (apart_none _).mono ?_
    rintro e w1 ⟨rfl, rfl⟩
    go_wp2_with fail
    refine wp_loop_rounds 1 ?_
    rw [rounds_succ]
    go_wp2_with fail
    refine bodyPost_ret (v := .tuple #[.slice (some ⟨w.heap.size, 0, none⟩) 0 0, .bool true]) (by simp [results, Tryd.results31, go_sem]) rfl ?_
    exact RCRet.yes (k := 0) (ps := []) hb.out hN.out (CRw.start w w (Bel.refl _)) (RcS.start _)
  | false =>
    obtain ⟨N, hN⟩ : ∃ N, N = (pcs l).length := ⟨_, rfl⟩
    have hP := Lib.hid (piece_len l)
    have hl' := Lib.hid hl
    have hNl : N ≤ 1048577 := by rw [hN]; exact Nat.le_trans (pc_len 44 l []) (by omega)
    have hrd := Lib.hid (show rcB l = (decide (N ≤ 256) && allB (fun i => hexC (pieceN l i)) N) by unfold rcB; rw [hq, ← hN]; rfl)
    have hrn := Lib.hid (show rcB l = true → rcN l = N from fun e => by unfold rcN; rw [e, hq, ← hN]; rfl)
    replace hq := Lib.hid hq
    have hN1 : 1 ≤ N := by
      rw [hN]
      cases h : pcs l with
      | nil => exact absurd h (pc_ne 44 l [])
      | cons _ _ => simp
    replace hN := Lib.hid hN
    obtain ⟨B, hB⟩ : ∃ B, B = decide (N ≤ 256) := ⟨_, rfl⟩
    rw [← hB] at hrd
    have hB' := Lib.hid hB
    clear hB
    go_enter Tryd.func31, Tryd.ntmps31
    go_wp2_with fail
    refine (apart_any _ l hl'.out hM1.out hq.out).mono ?_
    rintro e w1 ⟨g5, cs, rfl, hPB, hB1⟩
    rw [← hN.out] at hPB
    rw [← hN.out, ← hB'.out]
    have hI := Lib.hid (CRw.start w w1 hB1)
    replace hPB := Lib.hid (hPB.bel ((Bel.refl w1).alloc (.cells #[] 68)))
    clear hB1
    cases B with
    | false =>
      have hno := Lib.hid (show rcB l = false by rw [hrd.out, Bool.false_and])
      go_wp2_with fail
      go_loopw [6, 21] (fun v iv wr => v = .slice (some ⟨w1.heap.size, 0, none⟩) 0 0 ∧ iv = .int .i64 0 ∧ Hid (CRw w wr v []) ∧ Hid (PBlk wr g5 N (pieceN l) cs)) (fun _ iv _ => 0)
      case atStart => exact ⟨rfl, rfl, hI, hPB⟩
      case round =>
        obtain ⟨rfl, rfl, hS, hPk⟩ := hrel
        have h1 := hPk.out.cell (j := 0) (by omega)
        go_wp2_with fail
        refine bodyPost_ret (v := .tuple #[.slice none 0 0, .bool false]) (by simp [results, Tryd.results31, go_sem]) rfl ?_
        obtain ⟨_, _, _, _, hb⟩ := hS.out
        exact RCRet.no hno.out hb
    | true =>
      have hN256 : N ≤ 256 := by have := hB'.out; simpa using this.symm
      go_wp2_with fail
      go_loopw [6, 21] (fun v iv wr => ∃ (k : Nat) (ps : List (Nat × Nat)), k ≤ N ∧ iv = .int .i64 (k : Int) ∧ Hid (allB (fun i => hexC (pieceN l i)) k = true) ∧ Hid (RcS l k ps) ∧ Hid (CRw w wr v ps) ∧ Hid (PBlk wr g5 N (pieceN l) cs)) (fun _ iv _ => N - (intOf iv).toNat)
      case atStart => exact ⟨0, [], Nat.zero_le _, rfl, Lib.hid rfl, Lib.hid (RcS.start l), hI, hPB⟩
      case round =>
        obtain ⟨k, ps, hk, rfl, hs, hR, hS, hPk⟩ := hrel
        have hlen := hR.out.len
        obtain ⟨g, cap, rfl, hown, hbel⟩ := hS.out
        by_cases hlt : k < N
        · have h1 := hPk.out.cell hlt
          have hbel' := Lib.hid hbel
          have hF1 := Lib.hid (show Errs wr ∧ Tz wr from ⟨errs_bel hF.out.1 hbel, tz_bel hF.out.2 hbel⟩)
          clear hown hbel
          obtain ⟨q, hq'⟩ : ∃ q, q = pieceN l k := ⟨_, rfl⟩
          rw [← hq'] at h1
          have hqs := size_at q
          obtain ⟨m, hm⟩ : ∃ m, m = q.length := ⟨_, rfl⟩
          have hm2 : m ≤ 1048576 := by rw [hm, hq']; have := hP.out k; have := hl'.out; omega
          rw [← hm] at hqs
          by_cases h8 : m = 16
          · subst h8
            have hq8 := Lib.hid hm.symm
            have hval := Lib.hid (show hexC (pieceN l k) = (hexB (lo8 q) && hexB (hi8 q)) by rw [← hq']; exact hexC_of hq8.out)
            have hre := Lib.hid (show reX l k = valH (lo8 q) by rw [hq'])
            have him := Lib.hid (show imX l k = valH (hi8 q) by rw [hq'])
            replace hq' := Lib.hid hq'
            clear hm
            go_wp2_with fail
            rw [cut_lo hq8.out]
            refine (readDigits_any _ _ (by rw [len_lo8 hq8.out]; omega) hF1.out.1 hF1.out.2).mono ?_
            rintro e w2 ⟨r, X, rfl, hr, hX, hB⟩
            have hX' := Lib.hid hX
            have hr' := Lib.hid hr
            have hF2 := Lib.hid (show Errs w2 ∧ Tz w2 from ⟨errs_bel hF1.out.1 hB, tz_bel hF1.out.2 hB⟩)
            replace hS := Lib.hid (hS.out.bel hB)
            replace hPk := Lib.hid (hPk.out.bel hB)
            clear hr hX hB
            obtain ⟨b1, hb1⟩ : ∃ b, b = hexB (lo8 q) := ⟨_, rfl⟩
            rw [← hb1]
            replace hb1 := Lib.hid hb1
            go_wp2_with fail
            rw [cut_hi hq8.out]
            refine (readDigits_any _ _ (by rw [len_hi8 hq8.out]; omega) hF2.out.1 hF2.out.2).mono ?_
            rintro e w3 ⟨s, Y, rfl, hr, hX, hB⟩
            have hY' := Lib.hid hX
            have hs' := Lib.hid hr
            replace hS := Lib.hid (hS.out.bel hB)
            replace hPk := Lib.hid (hPk.out.bel hB)
            clear hr hX hB
            obtain ⟨b2, hb2⟩ : ∃ b, b = hexB (hi8 q) := ⟨_, rfl⟩
            rw [← hb2]
            replace hb2 := Lib.hid hb2
            cases b1 with
            | false =>
              have hno := Lib.hid (show rcB l = false by
                rw [hrd.out, allB_no hlt (by rw [hval.out, ← hb1.out]; rfl), Bool.and_false])
              go_wp2_with fail
              refine bodyPost_ret (v := .tuple #[.slice none 0 0, .bool false]) (by simp [results, Tryd.results31, go_sem]) rfl ?_
              obtain ⟨_, _, _, _, hb⟩ := hS.out
              exact RCRet.no hno.out hb
            | true =>
              cases b2 with
              | false =>
                have hno := Lib.hid (show rcB l = false by
                  rw [hrd.out, allB_no hlt (by rw [hval.out, ← hb2.out, Bool.and_false]), Bool.and_false])
                go_wp2_with fail
                refine bodyPost_ret (v := .tuple #[.slice none 0 0, .bool false]) (by simp [results, Tryd.results31, go_sem]) rfl ?_
                obtain ⟨_, _, _, _, hb⟩ := hS.out
                exact RCRet.no hno.out hb
              | true =>
                have hs2 := Lib.hid (show allB (fun i => hexC (pieceN l i)) (k + 1) = true from allB_succ hs.out (by rw [hval.out, ← hb1.out, ← hb2.out]; rfl))
                have hR2 := Lib.hid (hR.out.next (x := r) (y := s) (by rw [hre.out, ← hX'.out hb1.out.symm]; exact hr'.out) (by rw [him.out, ← hY'.out hb2.out.symm]; exact hs'.out))
                obtain ⟨_, _, hvv, hown, hbel⟩ := hS.out
                cases hvv
                rw [hlen] at hown
                have hbs := hbel.size
                clear hb1 hb2 hX' hY' hr' hs'
                go_wp2_with (at_builtin; refine wpList_app1 rfl _ _ 44 rfl w.heap.size 68 i0 _ 8 Tryd.underlying44 hi0 hz0 hz1 hz2 rfl (.slice (some ⟨g, 0, none⟩) k cap) k _ rfl hown rfl rfl (by omega) (by unfold maxLen; omega) hbs ?_; intro v2 w4 hown2 hgrow)
                rw [← hlen] at hown2 hgrow
                have hN2 := Lib.hid (hS.out.next hown2 hgrow)
                replace hPk := Lib.hid (hPk.out.nextC hS.out hgrow)
                clear hown2 hgrow
                go_wp2_with fail
                refine ⟨⟨k + 1, ps ++ [(r, s)], by omega, by simp, hs2, hR2, hN2, hPk⟩, ?_⟩
                show N - (((k : Nat) : Int) + 1).toNat < N - ((k : Nat) : Int).toNat
                omega
          · have hno := Lib.hid (show rcB l = false by
              rw [hrd.out, allB_no hlt (by rw [← hq']; exact hexC_len (by omega)), Bool.and_false])
            have h8I : ((m : Int) == 16) = false := by simp; omega
            have h8J : ((m : Int) != 16) = true := by simp; omega
            replace hm := Lib.hid hm
            replace hq' := Lib.hid hq'
            go_wp2_with fail
            refine bodyPost_ret (v := .tuple #[.slice none 0 0, .bool false]) (by simp [results, Tryd.results31, go_sem]) rfl ?_
            exact RCRet.no hno.out hbel'.out
        · obtain rfl : k = N := by omega
          have hyes := Lib.hid (show rcB l = true by rw [hrd.out, hs.out]; rfl)
          clear hown
          go_wp2_with fail
          refine bodyPost_ret (v := .tuple #[.slice (some ⟨g, 0, none⟩) ps.length cap, .bool true]) (by simp [results, Tryd.results31, go_sem]) rfl ?_
          exact RCRet.yes hyes.out (hrn.out hyes.out) hS.out hR.out
set_option maxRecDepth 100000 in
set_option maxHeartbeats 2000000 in
theorem walkRC (w : World) (l : List UInt8) (hf : Fx4 w) : Calls Tryd.prog 9 #[.string ⟨l.toArray⟩] w (fun e w' => e = .returned (.bool true) ∧ Bel w w') := by
  have hsz := size_at l
  obtain ⟨n, hn⟩ : ∃ n, n = l.length := ⟨_, rfl⟩
  rw [← hn] at hsz
  replace hn := Lib.hid hn
  by_cases hnz : n ≤ 1048576
  · obtain ⟨N, hN2⟩ : ∃ N, N = rcN l := ⟨_, rfl⟩
    have hN64 : N ≤ 256 := by rw [hN2]; exact rcN_le l
    obtain ⟨B, hB⟩ : ∃ B, B = rcB l := ⟨_, rfl⟩
    replace hN2 := Lib.hid hN2
    replace hB := Lib.hid hB
    have hF := Lib.hid hf
    clear hf
    go_enter Tryd.func9, Tryd.ntmps9
    go_wp2_with fail
    refine (sReadComplex_any w l (by have := hn.out; omega)).mono ?_
    rintro e w1 ⟨xs, ys, ao, c, rfl, hO, hX, hB1⟩
    rw [← hN2.out] at hO hX
    rw [← hN2.out, ← hB.out]
    have hA := Lib.hid hO
    have hW := Lib.hid hB1
    have hs1 := Lib.hid hB1.size
    have hXs := Lib.hid hX
    clear hO hB1 hX
    go_wp2_with fail
    have hFw := Lib.hid (fx4_bel hF.out hW.out)
    refine (iReadComplex_any w1 l (by have := hn.out; omega) hFw.out.1 hFw.out.2.1 hFw.out.2.2).mono ?_
    rintro e w2 ⟨us, vs, bo, d, rfl, hO, hX, hB1⟩
    rw [← hN2.out] at hO hX
    rw [← hN2.out, ← hB.out]
    have hI := Lib.hid hO
    have hUs := Lib.hid hX
    replace hA := Lib.hid (hA.out.bel hB1)
    replace hW := Lib.hid (hW.out.trans hB1)
    clear hO hB1 hFw hX
    have hsp := Lib.hid (show ∀ a b, ao = some a → bo = some b → b.block ≠ a.block from fun a b ha hb => by
      have h1 := (hA.out.own a ha).2.1
      have h2 := (hI.out.own b hb).1
      omega)
    go_wp2_with fail
    refine (eqC64 w2 bo ao N d c us vs xs ys _ _ hI.out.row hA.out.row (by omega) hUs.out hXs.out).mono ?_
    rintro e w3 ⟨rfl, hD⟩
    replace hA := Lib.hid (hA.out.bel hD)
    replace hI := Lib.hid (hI.out.bel hD)
    replace hW := Lib.hid (hW.out.trans hD)
    clear hD
    go_wp2_with fail
    refine (markC64 w3 w1.heap.size w2.heap.size bo N d 1 _ hI.out (by omega) (by omega)).mono ?_
    rintro e w4 ⟨rfl, hIm, hOn⟩
    replace hA := Lib.hid (hA.out.only hOn hsp.out)
    replace hW : Hid (Bel w w4) := Lib.hid (Below.trans hW.out (hOn.below (B := w.heap.size) (fun a ha => by have := (hIm.own a ha).1; have := hs1.out; omega)))
    replace hI := Lib.hid hIm
    clear hIm hOn
    go_wp2_with fail
    refine (heldC64 w4 bo N d 1 hI.out.row (by omega) (by omega)).mono ?_
    rintro e w' ⟨rfl, rfl⟩
    have h1N : ¬ (((1 + N : Nat) : Int) < 0) := by omega
    go_wp2_with fail
    have hFw := Lib.hid (fx4_bel hF.out hW.out)
    refine (iReadComplex_any w4 l (by have := hn.out; omega) hFw.out.1 hFw.out.2.1 hFw.out.2.2).mono ?_
    rintro e w6 ⟨ps, qs, co, d2, rfl, hO, hX, hB1⟩
    rw [← hN2.out] at hO hX
    rw [← hN2.out, ← hB.out]
    have hC := Lib.hid hO
    have hPs := Lib.hid hX
    replace hA := Lib.hid (hA.out.bel hB1)
    replace hI := Lib.hid (hI.out.bel hB1)
    replace hW := Lib.hid (hW.out.trans hB1)
    clear hO hB1 hFw hX
    go_wp2_with fail
    refine (eqC64 w6 co ao N d2 c ps qs xs ys _ _ hC.out.row hA.out.row (by omega) hPs.out hXs.out).mono ?_
    rintro e w7 ⟨rfl, hD⟩
    replace hI := Lib.hid (hI.out.bel hD)
    replace hW := Lib.hid (hW.out.trans hD)
    clear hD
    go_wp2_with fail
    refine (heldC64 w7 bo N d 1 hI.out.row (by omega) (by omega)).mono ?_
    rintro e w' ⟨rfl, rfl⟩
    go_wp2_with fail
    go_ret
    exact ⟨rfl, hW.out⟩
  · go_enter Tryd.func9, Tryd.ntmps9
    go_wp2_with fail
    go_ret
    exact ⟨rfl, Bel.refl _⟩
theorem walkFnExactReadComplex (w : World) (s : ByteArray) (hs : s.size ≤ maxLen) (h : Fx4 w) : Calls Tryd.prog 9 #[.string s] w (fun e w' => e = .returned (.bool true) ∧ Bel w w') := by
  obtain ⟨⟨l⟩⟩ := s
  exact walkRC w l h
theorem factsFnExactReadComplex {W : World} (h : laidMet Tryd.prog Rows.fnExactReadComplexRow.laid W) (hs : W.ShapedOpen Tryd.prog) : Fx4 W :=
  ⟨⟨sent (h.tail.tail.tail.tail.tail) gES gESt, sent (h.tail.tail.tail.tail) gER gERt⟩,
    tz_of h.tail,
    Go.Proofs.cell_of_shapedOpen_int (zero := #[.int .i64 0]) (t := 3) hs (of_decide_eq_true (by kernel_rfl)) (by kernel_rfl) rfl (by kernel_rfl) (by kernel_rfl) Tryd.underlying3⟩
end Go.Proofs.YtianaalokclklaaDoor
