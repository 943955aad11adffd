/-
  CONTRACTS: a row of 32-bit numbers of the call's own, made number by number; numbers read, the program's.
-/
import Derived.Test.YtianaalokclklaaDoorT12
import Derived.Test.YtianaalokclklaaDoorH0
set_option linter.unusedSimpArgs false
set_option linter.unusedVariables false
namespace Go.Proofs.YtianaalokclklaaDoor
open Go.RowKit Go.Fl

def flts (xs : List Nat) : List Value := xs.map fun x => .float .f32 x
/-- a row of 32-bit numbers of the call's own -/
def FRw (w wr : World) (v : Value) (xs : List Nat) : Prop := ∃ g cap, v = .slice (some ⟨g, 0, none⟩) xs.length cap ∧ wr.ownsRow w.heap.size 54 1 v xs.length (flts xs) ∧ Bel w wr
theorem FRw.bel {w wr w1 : World} {v : Value} {xs : List Nat} (h : FRw w wr v xs) (hb : Bel wr w1) : FRw w w1 v xs := by
  obtain ⟨g, cap, rfl, h1, h2⟩ := h
  exact ⟨g, cap, rfl, own_belx (bs := none) h1 (BelX.of hb) (by intro j hj; cases hj), h2.trans hb⟩
theorem FRw.start (w wr : World) (hb : Bel w wr) : FRw w (wr.alloc (.cells #[] 54)) (.slice (some ⟨wr.heap.size, 0, none⟩) 0 0) [] :=
  ⟨_, _, rfl, World.ownsRow_made wr #[] 0 hb.size (by unfold maxLen; omega) rfl, hb.alloc _⟩
theorem FRw.next {w wr w2 : World} {v v2 : Value} {xs : List Nat} {x : Nat} {o : Obj} (h : FRw w wr v xs) (hown : w2.ownsRow w.heap.size 54 1 v2 (xs.length + 1) (flts xs ++ [.float .f32 x])) (hg : (wr.alloc o).grownBy w2 v.ownBlock) : FRw w w2 v2 (xs ++ [x]) := by
  obtain ⟨g, cap, rfl, h1, h2⟩ := h
  have e : flts xs ++ [.float .f32 x] = flts (xs ++ [x]) := by simp [flts]
  have e2 : xs.length + 1 = (xs ++ [x]).length := by simp
  rw [e] at hown
  obtain ⟨g2, cap2, rfl⟩ := own_succ hown
  have hs := h2.size
  have hb : Below w.heap.size (wr.alloc o) w2 := (Below.refl _ _).grown hg (by simp; omega) (own_row h1)
  exact ⟨g2, cap2, by rw [e2], by rw [← e2]; exact hown, Below.trans (h2.alloc o) hb⟩
theorem PBlk.nextF {w wr w2 : World} {v : Value} {xs : List Nat} {g N : Nat} {o : Obj} {f : Nat → List UInt8} {cs : Array Value} (h : PBlk wr g N f cs) (hI : FRw w wr v xs) (hg : (wr.alloc o).grownBy w2 v.ownBlock) : PBlk w2 g N f cs := by
  obtain ⟨g1, cap, rfl, h1, h2⟩ := hI
  refine ⟨grown_keep (w1 := wr.alloc o) (o := .cells cs 9 (0, 0)) ?_ ?_ hg (own_far h1 (by decide) h.heap), h.at'⟩
  · rw [((Bel.refl wr).alloc o).block g h.lt]; exact h.heap
  · have := h.lt; simp; omega
theorem FRw.done {w wr : World} {v : Value} {xs : List Nat} (h : FRw w wr v xs) (hz : ∀ i, i < xs.length → xs.getD i 0 < 4294967296) : ∃ ao c, v = .slice ao xs.length c ∧ ORow w.heap.size wr.heap.size wr ao xs.length xs := by
  obtain ⟨g, cap, rfl, h1, h2⟩ := h
  refine ⟨_, cap, rfl, ⟨rfl, fun hn => ⟨g, 0, rfl, (World.ownsRow.lt h1 g rfl).2, fun i hi => ?_⟩, hz⟩, fun a ha => ?_⟩
  · have := World.ownsRow.cells h1 rfl i _ (show (flts xs)[i]? = some (.float .f32 (xs.getD i 0)) by simp [flts, hi, List.getD_eq_getElem?_getD])
    rw [Nat.zero_add]
    unfold Addr.add at this
    simp at this
    split at this
    · rename_i h0; rw [h0]; rw [h0] at this; exact this
    · exact this
  · cases ha
    rcases h1.2 with ⟨e, _⟩ | ⟨g2, cap2, cur, e, hb, h3, _⟩
    · cases e
    · cases e
      have hl := (Array.getElem?_eq_some_iff.1 h3).1
      exact ⟨hb, hl, hl, cells_free h3⟩
def rdB (l : List UInt8) : Bool := noneB l || (decide ((pcs l).length ≤ 256) && allB (fun i => hexB (pieceN l i)) (pcs l).length)
def rdN (l : List UInt8) : Nat := if rdB l && !noneB l then (pcs l).length else 0
theorem rdN_le (l : List UInt8) : rdN l ≤ 256 := by
  unfold rdN
  cases h1 : noneB l with
  | true => rw [Bool.not_true, Bool.and_false]; simp
  | false =>
    cases h2 : rdB l with
    | false => simp
    | true =>
      unfold rdB at h2
      rw [h1, Bool.false_or, Bool.and_eq_true, decide_eq_true_eq] at h2
      simpa using h2.1
/-- the words read so far are the numbers -/
structure RdS (l : List UInt8) (k : Nat) (xs : List Nat) : Prop where
  len : xs.length = k
  is : ∀ j, j < k → Is .f32 (xs.getD j 0) (valH (pieceN l j))
theorem RdS.start (l : List UInt8) : RdS l 0 [] := ⟨rfl, fun j h => absurd h (by omega)⟩
theorem RdS.next {l : List UInt8} {k x : Nat} {xs : List Nat} (h : RdS l k xs) (hx : Is .f32 x (valH (pieceN l k))) : RdS l (k + 1) (xs ++ [x]) := by
  have hl := h.len
  refine ⟨by simp [hl], fun j hj => ?_⟩
  by_cases hlt : j < k
  · have := h.is j hlt
    rw [List.getD_eq_getElem?_getD] at this ⊢
    rw [List.getElem?_append_left (by omega)]
    exact this
  · obtain rfl : j = k := by omega
    rw [List.getD_eq_getElem?_getD, List.getElem?_append_right (by omega), hl, Nat.sub_self]
    exact hx
/-- the numbers whose text a text is -/
def RNRet (l : List UInt8) (w : World) (e : Ending) (w' : World) : Prop := ∃ xs ao c, e = .returned (.tuple #[.slice ao (rdN l) c, .bool (rdB l)]) ∧ ORow w.heap.size w'.heap.size w' ao (rdN l) xs ∧ (∀ j, j < rdN l → cn .f32 (xs.getD j 0) = valH (pieceN l j)) ∧ Bel w w'
theorem RNRet.no {l : List UInt8} {w w' : World} (h : rdB l = false) (hb : Bel w w') : RNRet l w (.returned (.tuple #[.slice none 0 0, .bool false])) w' := by
  have e : rdN l = 0 := by unfold rdN; rw [h]; rfl
  refine ⟨[], none, 0, by rw [e, h], ?_, fun j hj => absurd hj (by omega), hb⟩
  rw [e]; exact ORow.nil _ _ _
theorem RNRet.yes {l : List UInt8} {w w' : World} {v : Value} {k : Nat} {xs : List Nat} (h : rdB l = true) (hk : rdN l = k) (hI : FRw w w' v xs) (hS : RdS l k xs) : RNRet l w (.returned (.tuple #[v, .bool true])) w' := by
  have hl := hS.len
  obtain ⟨ao, c, rfl, hO⟩ := hI.done (fun i hi => by have := (hS.is i (by omega)).1; rw [w32] at this; exact this)
  obtain ⟨_, _, _, _, hb⟩ := hI
  subst hk
  rw [hl] at hO ⊢
  exact ⟨xs, ao, c, by rw [h], hO, fun j hj => (hS.is j hj).2, hb⟩
set_option maxRecDepth 100000 in
set_option maxHeartbeats 2000000 in
theorem iReadNumbers_any (w : World) (l : List UInt8) (hl : l.length ≤ 1048576) (he : Errs w) (ht : Tz w) (hM : MaxL w) : Calls Tryd.prog 27 #[.string ⟨l.toArray⟩] w (RNRet l w) := by
  obtain ⟨i0, hi0, hz0, hz1, hz2⟩ := info_parts infoF32
  have hF := Lib.hid (show Errs w ∧ Tz w from ⟨he, ht⟩)
  have hM1 := Lib.hid hM
  clear he ht hM
  cases hq : noneB l with
  | true =>
    have hb := Lib.hid (show rdB l = true by unfold rdB; rw [hq]; rfl)
    have hN := Lib.hid (show rdN l = 0 by unfold rdN; rw [hq, Bool.not_true, Bool.and_false]; rfl)
    obtain rfl : l = [110, 111, 110, 101] := by unfold noneB at hq; simpa using hq
    clear hq
    go_enter Tryd.func27, Tryd.ntmps27
    go_wp2_with fail
    refine (apart_none _).mono ?_
    rintro e w1 ⟨rfl, rfl⟩
    go_wp2_with fail
    refine wp_loop_rounds 1 ?_
    rw [rounds_succ]
    go_wp2_with fail
    refine bodyPost_ret (v := .tuple #[.slice (some ⟨w.heap.size, 0, none⟩) 0 0, .bool true]) (by simp [results, Tryd.results27, go_sem]) rfl ?_
    exact RNRet.yes (k := 0) (xs := []) hb.out hN.out (FRw.start w w (Bel.refl _)) (RdS.start _)
  | false =>
    obtain ⟨N, hN⟩ : ∃ N, N = (pcs l).length := ⟨_, rfl⟩
    have hP := Lib.hid (piece_len l)
    have hl' := Lib.hid hl
    have hNl : N ≤ 1048577 := by rw [hN]; exact Nat.le_trans (pc_len 44 l []) (by omega)
    have hrd := Lib.hid (show rdB l = (decide (N ≤ 256) && allB (fun i => hexB (pieceN l i)) N) by unfold rdB; rw [hq, ← hN]; rfl)
    have hrn := Lib.hid (show rdB l = true → rdN l = N from fun e => by unfold rdN; rw [e, hq, ← hN]; rfl)
    replace hq := Lib.hid hq
    have hN1 : 1 ≤ N := by
      rw [hN]
      cases h : pcs l with
      | nil => exact absurd h (pc_ne 44 l [])
      | cons _ _ => simp
    replace hN := Lib.hid hN
    obtain ⟨B, hB⟩ : ∃ B, B = decide (N ≤ 256) := ⟨_, rfl⟩
    rw [← hB] at hrd
    have hB' := Lib.hid hB
    clear hB
    go_enter Tryd.func27, Tryd.ntmps27
    go_wp2_with fail
    refine (apart_any _ l hl'.out hM1.out hq.out).mono ?_
    rintro e w1 ⟨g5, cs, rfl, hPB, hB1⟩
    rw [← hN.out] at hPB
    rw [← hN.out, ← hB'.out]
    have hI := Lib.hid (FRw.start w w1 hB1)
    replace hPB := Lib.hid (hPB.bel ((Bel.refl w1).alloc (.cells #[] 54)))
    clear hB1
    cases B with
    | false =>
      have hno := Lib.hid (show rdB l = false by rw [hrd.out, Bool.false_and])
      go_wp2_with fail
      go_loopw [6, 19] (fun v iv wr => v = .slice (some ⟨w1.heap.size, 0, none⟩) 0 0 ∧ iv = .int .i64 0 ∧ Hid (FRw w wr v []) ∧ Hid (PBlk wr g5 N (pieceN l) cs)) (fun _ iv _ => 0)
      case atStart => exact ⟨rfl, rfl, hI, hPB⟩
      case round =>
        obtain ⟨rfl, rfl, hS, hPk⟩ := hrel
        have h1 := hPk.out.cell (j := 0) (by omega)
        obtain ⟨_, _, _, _, hbel⟩ := hS.out
        have hF1 := Lib.hid (show Errs wr ∧ Tz wr from ⟨errs_bel hF.out.1 hbel, tz_bel hF.out.2 hbel⟩)
        have hkl := Lib.hid (show (pieceN l 0).length ≤ 1048576 by have := hP.out 0; have := hl'.out; omega)
        clear hbel
        go_wp2_with fail
        refine (readDigits_any _ (pieceN l 0) hkl.out hF1.out.1 hF1.out.2).mono ?_
        rintro e w2 ⟨r, X, rfl, hi, hX, hB⟩
        replace hS := Lib.hid (hS.out.bel hB)
        clear hB hi hX
        go_wp2_with fail
        refine bodyPost_ret (v := .tuple #[.slice none 0 0, .bool false]) (by simp [results, Tryd.results27, go_sem]) rfl ?_
        obtain ⟨_, _, _, _, hb⟩ := hS.out
        exact RNRet.no hno.out hb
    | true =>
      have hN256 : N ≤ 256 := by have := hB'.out; simpa using this.symm
      go_wp2_with fail
      go_loopw [6, 19] (fun v iv wr => ∃ (k : Nat) (xs : List Nat), k ≤ N ∧ iv = .int .i64 (k : Int) ∧ Hid (allB (fun i => hexB (pieceN l i)) k = true) ∧ Hid (RdS l k xs) ∧ Hid (FRw w wr v xs) ∧ Hid (PBlk wr g5 N (pieceN l) cs)) (fun _ iv _ => N - (intOf iv).toNat)
      case atStart => exact ⟨0, [], Nat.zero_le _, rfl, Lib.hid rfl, Lib.hid (RdS.start l), hI, hPB⟩
      case round =>
        obtain ⟨k, xs, hk, rfl, hs, hR, hS, hPk⟩ := hrel
        have hlen := hR.out.len
        obtain ⟨g, cap, rfl, hown, hbel⟩ := hS.out
        by_cases hlt : k < N
        · have h1 := hPk.out.cell hlt
          have hF1 := Lib.hid (show Errs wr ∧ Tz wr from ⟨errs_bel hF.out.1 hbel, tz_bel hF.out.2 hbel⟩)
          clear hown hbel
          have hkl := Lib.hid (show (pieceN l k).length ≤ 1048576 by have := hP.out k; have := hl'.out; omega)
          cases hd : hexB (pieceN l k) with
          | false =>
            have hno := Lib.hid (show rdB l = false by rw [hrd.out, allB_no hlt hd, Bool.and_false])
            replace hd := Lib.hid hd
            go_wp2_with fail
            refine (readDigits_any _ (pieceN l k) hkl.out hF1.out.1 hF1.out.2).mono ?_
            rintro e w2 ⟨r, X, rfl, hi, hX, hB⟩
            rw [hd.out]
            replace hS := Lib.hid (hS.out.bel hB)
            clear hB hi hX
            go_wp2_with fail
            refine bodyPost_ret (v := .tuple #[.slice none 0 0, .bool false]) (by simp [results, Tryd.results27, go_sem]) rfl ?_
            obtain ⟨_, _, _, _, hb⟩ := hS.out
            exact RNRet.no hno.out hb
          | true =>
            have hs' := Lib.hid (show allB (fun i => hexB (pieceN l i)) (k + 1) = true from allB_succ hs.out hd)
            replace hd := Lib.hid hd
            go_wp2_with fail
            refine (readDigits_any _ (pieceN l k) hkl.out hF1.out.1 hF1.out.2).mono ?_
            rintro e w2 ⟨r, X, rfl, hi, hX, hB⟩
            obtain rfl := hX hd.out
            have hR2 := Lib.hid (hR.out.next hi)
            rw [hd.out]
            replace hS := Lib.hid (hS.out.bel hB)
            replace hPk := Lib.hid (hPk.out.bel hB)
            clear hB hX hi
            obtain ⟨_, _, hvv, hown, hbel⟩ := hS.out
            cases hvv
            rw [hlen] at hown
            have hbs := hbel.size
            go_wp2_with (at_builtin; refine wpList_app1 rfl _ _ 30 rfl w.heap.size 54 i0 _ 4 Tryd.underlying30 hi0 hz0 hz1 hz2 rfl (.slice (some ⟨g, 0, none⟩) k cap) k _ rfl hown rfl rfl (by omega) (by unfold maxLen; omega) hbs ?_; intro v2 w3 hown2 hgrow)
            rw [← hlen] at hown2 hgrow
            have hN2 := Lib.hid (hS.out.next hown2 hgrow)
            replace hPk := Lib.hid (hPk.out.nextF hS.out hgrow)
            clear hown2 hgrow
            go_wp2_with fail
            refine ⟨⟨k + 1, xs ++ [r], by omega, by simp, hs', hR2, hN2, hPk⟩, ?_⟩
            show N - (((k : Nat) : Int) + 1).toNat < N - ((k : Nat) : Int).toNat
            omega
        · obtain rfl : k = N := by omega
          have hyes := Lib.hid (show rdB l = true by rw [hrd.out, hs.out]; rfl)
          clear hown
          go_wp2_with fail
          refine bodyPost_ret (v := .tuple #[.slice (some ⟨g, 0, none⟩) xs.length cap, .bool true]) (by simp [results, Tryd.results27, go_sem]) rfl ?_
          exact RNRet.yes hyes.out (hrn.out hyes.out) hS.out hR.out
end Go.Proofs.YtianaalokclklaaDoor
