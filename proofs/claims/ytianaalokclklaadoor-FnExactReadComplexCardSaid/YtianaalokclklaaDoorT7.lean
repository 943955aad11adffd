/-
  THE LAW 'FnExactReadList': its contracts and its walk.
-/
import Derived.Test.YtianaalokclklaaDoorT6
set_option linter.unusedSimpArgs false
set_option linter.unusedVariables false
namespace Go.Proofs.YtianaalokclklaaDoor
open Go.RowKit Go.Fl

/-- a variable of the library that the cut reads -/
def MaxL (w : World) : Prop := ∃ m, w.cell? ⟨4, 0, none⟩ = some (.int .i64 m)
theorem maxl_bel {w w' : World} (h : MaxL w) (hb : Bel w w') : MaxL w' := by
  obtain ⟨m, hm⟩ := h
  exact ⟨m, (hb.cell (lt_of_cell hm)).trans hm⟩
theorem split_any (w : World) (l : List UInt8) (hl : l.length ≤ 1048576) (hM : MaxL w) :
    Calls Tryd.prog 49 #[.string ⟨l.toArray⟩, .string ⟨#[44]⟩] w (fun e w' => ∃ cs, e = .returned (.slice (some ⟨w.heap.size, 0, none⟩) (pcs l).length (pcs l).length) ∧ PBlk w' w.heap.size (pcs l).length (pieceN l) cs ∧ Bel w w') := by
  obtain ⟨m, hm⟩ := hM
  refine (Tryd.strings_Split ⟨l.toArray⟩ ⟨#[44]⟩ m w (by rw [size_at]; omega) hm (by decide)).mono ?_
  rintro e w' ⟨rfl, rfl⟩
  rw [pcs_splitB, pcs_count]
  refine ⟨_, rfl, ⟨heap_alloc_new w _, fun j hj => ?_⟩, (Bel.refl w).alloc _⟩
  obtain ⟨x, hx⟩ : ∃ x, (pcs l)[j]? = some x := ⟨_, List.getElem?_eq_getElem hj⟩
  rw [piece_at hx]
  simp [hx]
set_option maxRecDepth 100000 in
set_option maxHeartbeats 2000000 in
theorem iReadList_any (w : World) (l : List UInt8) (hl : l.length ≤ 1048576) (he : Errs w) (ht : Tab w) (hM : MaxL w) : Calls Tryd.prog 23 #[.string ⟨l.toArray⟩] w (RLRet l w) := by
  obtain ⟨i0, hi0, hz0, hz1, hz2⟩ := info_parts infoI64s
  have hF := Lib.hid (show Errs w ∧ Tab w from ⟨he, ht⟩)
  have hM1 := Lib.hid (maxl_bel hM ((Bel.refl w).alloc (.cells #[] 2)))
  clear he ht hM
  cases hq : noneB l with
  | true =>
    have hb := Lib.hid (show readB l = true by unfold readB; rw [hq]; rfl)
    have hN := Lib.hid (show readN l = 0 by unfold readN; rw [hq, Bool.not_true, Bool.and_false]; rfl)
    obtain rfl : l = [110, 111, 110, 101] := by unfold noneB at hq; simpa using hq
    clear hq
    go_enter Tryd.func23, Tryd.ntmps23
    go_wp2_with fail
    refine bodyPost_ret (v := .tuple #[.slice (some ⟨w.heap.size, 0, none⟩) 0 0, .bool true]) (by simp [results, Tryd.results23, go_sem]) rfl ?_
    exact RLRet.yes hb.out hN.out (IRw.start w _) (fun i h => absurd h (by omega))
  | false =>
    have hcmp : (l == [110, 111, 110, 101]) = false := hq
    have hcmp2 : ¬ l = [110, 111, 110, 101] := by unfold noneB at hq; simpa using hq
    obtain ⟨N, hN⟩ : ∃ N, N = (pcs l).length := ⟨_, rfl⟩
    have hP := Lib.hid (piece_len l)
    have hl' := Lib.hid hl
    have hNl : N ≤ 1048577 := by rw [hN]; exact Nat.le_trans (pc_len 44 l []) (by omega)
    have hrd := Lib.hid (show readB l = (decide (N ≤ 64) && allB (fun i => decB (pieceN l i)) N) by unfold readB; rw [hq, ← hN]; rfl)
    have hrn := Lib.hid (show readB l = true → readN l = N from fun e => by unfold readN; rw [e, hq, ← hN]; rfl)
    replace hq := Lib.hid hq
    replace hN := Lib.hid hN
    go_enter Tryd.func23, Tryd.ntmps23
    go_wp2_with fail
    refine (split_any _ l hl'.out hM1.out).mono ?_
    rintro e w1 ⟨cs, rfl, hPB, hB1⟩
    rw [← hN.out] at hPB ⊢
    have hI := Lib.hid ((IRw.start w (readZ l)).bel hB1)
    replace hPB := Lib.hid hPB
    clear hB1 hcmp hcmp2
    go_wp2_with fail
    go_loopw [4, 16] (fun v iv wr => ∃ k : Nat, k ≤ N ∧ k ≤ 64 ∧ iv = .int .i64 (k : Int) ∧ Hid (allB (fun i => decB (pieceN l i)) k = true) ∧ Hid (IRw w wr v (readZ l) k) ∧ Hid (PBlk wr (w.alloc (.cells #[] 2)).heap.size N (pieceN l) cs)) (fun _ iv _ => N - (intOf iv).toNat)
    case atStart => exact ⟨0, Nat.zero_le _, by omega, rfl, Lib.hid rfl, hI, hPB⟩
    case round =>
      obtain ⟨k, hk, hk64, rfl, hs, hS, hPk⟩ := hrel
      obtain ⟨g, cap, rfl, hown, hbel⟩ := hS.out
      by_cases hlt : k < N
      · have h1 := hPk.out.cell hlt
        have h1' : wr.cell? ⟨w.heap.size + 1, k, none⟩ = some (.string ⟨(pieceN l k).toArray⟩) := by
          have e : (w.alloc (.cells #[] 2)).heap.size = w.heap.size + 1 := by simp
          rw [e] at h1; exact h1
        have hF1 := Lib.hid (show Errs wr ∧ Tab wr from ⟨errs_bel hF.out.1 hbel, tab_bel hF.out.2 hbel⟩)
        clear hown hbel h1
        have hkl := Lib.hid (show (pieceN l k).length ≤ 1048576 by have := hP.out k; have := hl'.out; omega)
        cases hd : decB (pieceN l k) with
        | false =>
          have hno := Lib.hid (show readB l = false by rw [hrd.out, allB_no hlt hd, Bool.and_false])
          replace hd := Lib.hid hd
          go_wp2_with fail
          refine (iReadDecimal_any _ (pieceN l k) hkl.out hF1.out.1 hF1.out.2).mono ?_
          rintro e w2 ⟨rfl, hB⟩
          rw [hd.out]
          replace hS := Lib.hid (hS.out.bel hB)
          clear hB
          go_wp2_with fail
          refine bodyPost_ret (v := .tuple #[.slice none 0 0, .bool false]) (by simp [results, Tryd.results23, go_sem]) rfl ?_
          obtain ⟨_, _, _, _, hb⟩ := hS.out
          exact RLRet.no hno.out hb
        | true =>
          have hs' := Lib.hid (show allB (fun i => decB (pieceN l i)) (k + 1) = true from allB_succ hs.out hd)
          replace hd := Lib.hid hd
          by_cases h64 : k = 64
          · have hno := Lib.hid (show readB l = false by rw [hrd.out, decide_eq_false (by omega), Bool.false_and])
            subst h64
            go_wp2_with fail
            refine (iReadDecimal_any _ (pieceN l 64) hkl.out hF1.out.1 hF1.out.2).mono ?_
            rintro e w2 ⟨rfl, hB⟩
            rw [hd.out]
            replace hS := Lib.hid (hS.out.bel hB)
            clear hB
            go_wp2_with fail
            refine bodyPost_ret (v := .tuple #[.slice none 0 0, .bool false]) (by simp [results, Tryd.results23, go_sem]) rfl ?_
            obtain ⟨_, _, _, _, hb⟩ := hS.out
            exact RLRet.no hno.out hb
          · have h64i : ((k : Int) == 64) = false := by simp; omega
            go_wp2_with fail
            refine (iReadDecimal_any _ (pieceN l k) hkl.out hF1.out.1 hF1.out.2).mono ?_
            rintro e w2 ⟨rfl, hB⟩
            rw [hd.out]
            replace hS := Lib.hid (hS.out.bel hB)
            replace hPk := Lib.hid (hPk.out.bel hB)
            clear hB
            obtain ⟨_, _, hvv, hown, hbel⟩ := hS.out
            cases hvv
            have hbs := hbel.size
            go_wp2_with (at_builtin; refine wpList_app1 rfl _ _ 24 rfl w.heap.size 2 i0 _ 8 Tryd.underlying24 hi0 hz0 hz1 hz2 rfl (.slice (some ⟨g, 0, none⟩) k cap) k _ rfl hown rfl rfl (by omega) (by unfold maxLen; omega) hbs ?_; intro v2 w3 hown2 hgrow)
            have hN2 := Lib.hid (hS.out.next hown2 hgrow)
            replace hPk := Lib.hid (hPk.out.next hS.out hgrow)
            clear hown2 hgrow
            go_wp2_with fail
            refine ⟨⟨k + 1, by omega, by omega, by simp, hs', hN2, by have := hPk.out; simpa using Lib.hid this⟩, ?_⟩
            show N - (((k : Nat) : Int) + 1).toNat < N - ((k : Nat) : Int).toNat
            omega
      · obtain rfl : k = N := by omega
        have hyes := Lib.hid (show readB l = true by rw [hrd.out, decide_eq_true hk64, hs.out]; rfl)
        clear hown
        go_wp2_with fail
        refine bodyPost_ret (v := .tuple #[.slice (some ⟨g, 0, none⟩) k cap, .bool true]) (by simp [results, Tryd.results23, go_sem]) rfl ?_
        exact RLRet.yes hyes.out (hrn.out hyes.out) hS.out (fun i hi => dec_wf (allB_iff.1 hs.out i hi))
theorem sReadList_any (w : World) (l : List UInt8) (hl : l.length ≤ 1048576) : Calls Tryd.prog 22 #[.string ⟨l.toArray⟩] w (RLRet l w) := by
  go_enter Tryd.func22, Tryd.ntmps22
  go_wp2_with fail
  refine (l01Numbers_any w l hl).mono ?_
  rintro e w' ⟨ao, c, rfl, hO, hB⟩
  replace hO := Lib.hid hO
  replace hB := Lib.hid hB
  go_wp2_with fail
  refine bodyPost_ret (v := .tuple #[.slice ao (readN l) c, .bool (readB l)]) (by simp [results, Tryd.results22, go_sem]) rfl ?_
  exact ⟨ao, c, rfl, hO.out, hB.out⟩
set_option maxHeartbeats 1000000 in
theorem heldI64 (w : World) (ao : Option Addr) (n c k : Nat) (hA : IRow .i64 w ao n (imarks k)) (hn : n ≤ 1048576) (hk : k ≤ 4194304) :
    Calls Tryd.prog 25 #[.slice ao n c, .int .i64 (k : Int)] w (ERet (.int .i64 ((k + n : Nat) : Int)) w) := by
  have hA' := Lib.hid hA
  clear hA
  go_enter Tryd.func25, Tryd.ntmps25
  go_wp2
  go_loopw [1, 5] (fun q i wr => ∃ j : Nat, j ≤ n ∧ i = .int .i64 (j : Int) ∧ q = .int .i64 ((k + j : Nat) : Int) ∧ w = wr) (fun _ i _ => n - (intOf i).toNat)
  case atStart => exact ⟨0, Nat.zero_le _, rfl, rfl, rfl⟩
  case round =>
    obtain ⟨j, hj, rfl, rfl, rfl⟩ := hrel
    by_cases hlt : j < n
    · obtain ⟨b, off, rfl, hb, hcell⟩ := hA'.out.at0 (by omega)
      have h1 : w.cell? ⟨b, off + j, none⟩ = some (.int .i64 ((k + j : Nat) : Int)) := hcell j hlt
      clear hcell
      go_wp2_with fail
      refine ⟨⟨j + 1, by omega, by simp, by congr 1, trivial⟩, ?_⟩
      show n - (((j : Nat) : Int) + 1).toNat < n - ((j : Nat) : Int).toNat
      omega
    · go_wp2
      obtain rfl : j = n := by omega
      all_goals go_ret
      exact ⟨rfl, rfl⟩
def Fx3 (w : World) : Prop := Errs w ∧ Tab w ∧ MaxL w
theorem fx_bel {a b : World} (h : Fx3 a) (hb : Bel a b) : Fx3 b := ⟨errs_bel h.1 hb, tab_bel h.2.1 hb, maxl_bel h.2.2 hb⟩
set_option maxRecDepth 100000 in
set_option maxHeartbeats 2000000 in
theorem walkRL (w : World) (l : List UInt8) (he : Errs w) (ht : Tab w) (hM : MaxL w) : Calls Tryd.prog 7 #[.string ⟨l.toArray⟩] w (fun e w' => e = .returned (.bool true) ∧ Bel w w') := by
  have hsz := size_at l
  obtain ⟨n, hn⟩ : ∃ n, n = l.length := ⟨_, rfl⟩
  rw [← hn] at hsz
  have hPn : (pcs l).length ≤ n + 1 := by rw [hn]; exact pc_len 44 l []
  have hRn : readN l ≤ n + 1 := by unfold readN; split <;> omega
  replace hn := Lib.hid hn
  clear hPn
  by_cases hnz : n ≤ 1048576
  · obtain ⟨N, hN⟩ : ∃ N, N = (if readB l then readN l else 0) := ⟨_, rfl⟩
    have hN2 : N = readN l := by
      rw [hN]; split
      · rfl
      · rename_i h; unfold readN; rw [Bool.not_eq_true] at h; rw [h]; rfl
    clear hN
    have hN64 : N ≤ 64 := by
      rw [hN2]; unfold readN
      cases h1 : noneB l with
      | true => rw [Bool.not_true, Bool.and_false]; simp
      | false =>
        cases h2 : readB l with
        | false => simp
        | true =>
          unfold readB at h2
          rw [h1, Bool.false_or, Bool.and_eq_true, decide_eq_true_eq] at h2
          simpa using h2.1
    obtain ⟨B, hB⟩ : ∃ B, B = readB l := ⟨_, rfl⟩
    obtain ⟨z, hz⟩ : ∃ z, z = readZ l := ⟨_, rfl⟩
    have hself := Lib.hid (eqI_self z N)
    replace hN2 := Lib.hid hN2
    replace hB := Lib.hid hB
    replace hz := Lib.hid hz
    have hF := Lib.hid (show Fx3 w from ⟨he, ht, hM⟩)
    clear he ht hM hRn
    go_enter Tryd.func7, Tryd.ntmps7
    go_wp2_with fail
    refine (sReadList_any w l (by have := hn.out; omega)).mono ?_
    rintro e w1 ⟨ao, c, rfl, hO, hB1⟩
    rw [← hN2.out, ← hz.out] at hO
    rw [← hN2.out, ← hB.out]
    have hA := Lib.hid hO
    have hW := Lib.hid hB1
    have hs1 := Lib.hid hB1.size
    clear hO hB1
    go_wp2_with fail
    have hFw := Lib.hid (fx_bel hF.out hW.out)
    refine (iReadList_any w1 l (by have := hn.out; omega) hFw.out.1 hFw.out.2.1 hFw.out.2.2).mono ?_
    rintro e w2 ⟨bo, d, rfl, hO, hB1⟩
    rw [← hN2.out, ← hz.out] at hO
    rw [← hN2.out, ← hB.out]
    have hI := Lib.hid hO
    replace hA := Lib.hid (hA.out.bel hB1)
    replace hW := Lib.hid (hW.out.trans hB1)
    clear hO hB1 hFw
    have hsp := Lib.hid (show ∀ a b, ao = some a → bo = some b → b.block ≠ a.block from fun a b ha hb => by
      have h1 := (hA.out.own a ha).2.1
      have h2 := (hI.out.own b hb).1
      omega)
    go_wp2_with fail
    refine (eqI64 w2 bo ao N d c z z hI.out.row hA.out.row (by omega)).mono ?_
    rintro e w3 ⟨rfl, hB1⟩
    rw [hself.out]
    replace hA := Lib.hid (hA.out.bel hB1)
    replace hI := Lib.hid (hI.out.bel hB1)
    replace hW := Lib.hid (hW.out.trans hB1)
    clear hB1
    go_wp2_with fail
    refine (markI64 w3 w1.heap.size w2.heap.size bo N d 1 z hI.out (by omega) (by omega)).mono ?_
    rintro e w4 ⟨rfl, hIm, hOn⟩
    replace hA := Lib.hid (hA.out.only hOn hsp.out)
    replace hW : Hid (Bel w w4) := Lib.hid (Below.trans hW.out (hOn.below (B := w.heap.size) (fun a ha => by have := (hIm.own a ha).1; have := hs1.out; omega)))
    replace hI := Lib.hid hIm
    clear hIm hOn
    go_wp2_with fail
    refine (heldI64 w4 bo N d 1 hI.out.row (by omega) (by omega)).mono ?_
    rintro e w' ⟨rfl, rfl⟩
    have h1N : ¬ (((1 + N : Nat) : Int) < 0) := by omega
    go_wp2_with fail
    have hFw := Lib.hid (fx_bel hF.out hW.out)
    refine (iReadList_any w4 l (by have := hn.out; omega) hFw.out.1 hFw.out.2.1 hFw.out.2.2).mono ?_
    rintro e w5 ⟨co, d2, rfl, hO, hB1⟩
    rw [← hN2.out, ← hz.out] at hO
    rw [← hN2.out, ← hB.out]
    have hC := Lib.hid hO
    replace hA := Lib.hid (hA.out.bel hB1)
    replace hI := Lib.hid (hI.out.bel hB1)
    replace hW := Lib.hid (hW.out.trans hB1)
    clear hO hB1 hFw
    go_wp2_with fail
    refine (eqI64 w5 co ao N d2 c z z hC.out.row hA.out.row (by omega)).mono ?_
    rintro e w6 ⟨rfl, hB1⟩
    rw [hself.out]
    replace hI := Lib.hid (hI.out.bel hB1)
    replace hW := Lib.hid (hW.out.trans hB1)
    clear hB1
    go_wp2_with fail
    refine (heldI64 w6 bo N d 1 hI.out.row (by omega) (by omega)).mono ?_
    rintro e w' ⟨rfl, rfl⟩
    go_wp2_with fail
    go_ret
    exact ⟨rfl, hW.out⟩
  · go_enter Tryd.func7, Tryd.ntmps7
    go_wp2_with fail
    go_ret
    exact ⟨rfl, Bel.refl _⟩
theorem walkFnExactReadList (w : World) (s : ByteArray) (hs : s.size ≤ maxLen) (h : Fx3 w) : Calls Tryd.prog 7 #[.string s] w (fun e w' => e = .returned (.bool true) ∧ Bel w w') := by
  obtain ⟨⟨l⟩⟩ := s
  exact walkRL w l h.1 h.2.1 h.2.2
theorem factsFnExactReadList {W : World} (h : laidMet Tryd.prog Rows.fnExactReadListRow.laid W) (hs : W.ShapedOpen Tryd.prog) : Fx3 W :=
  ⟨⟨sent (h.tail.tail.tail.tail.tail) gES gESt, sent (h.tail.tail.tail.tail) gER gERt⟩,
    Lib.tabIs_of_head (n := 20) g17 g17t Tryd.underlying113 Tryd.underlying80 (by kernel_rfl) (by kernel_rfl) (h.tail.tail),
    Go.Proofs.cell_of_shapedOpen_int (zero := #[.int .i64 0]) (t := 3) hs (of_decide_eq_true (by kernel_rfl)) (by kernel_rfl) rfl (by kernel_rfl) (by kernel_rfl) Tryd.underlying3⟩
end Go.Proofs.YtianaalokclklaaDoor
