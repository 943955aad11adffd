/-
  CONTRACTS: complex numbers read, the reference's.
-/
import Derived.Test.YtianaalokclklaaDoorT16
set_option linter.unusedSimpArgs false
set_option linter.unusedVariables false
namespace Go.Proofs.YtianaalokclklaaDoor
open Go.RowKit Go.Fl

theorem infoC64 : (Tryd.prog.info? 68).map (fun i => (i.zero, i.size, i.bytes)) = some (some (.complex .f32 0 0), 1, 8) := by kernel_rfl
/-- the parts of a piece -/
abbrev lo8 (q : List UInt8) : List UInt8 := q.take 8
abbrev hi8 (q : List UInt8) : List UInt8 := q.drop 8
def hexC (q : List UInt8) : Bool := decide (q.length = 16) && (hexB (lo8 q) && hexB (hi8 q))
theorem hexC_len {q : List UInt8} (h : q.length ≠ 16) : hexC q = false := by unfold hexC; rw [decide_eq_false h]; rfl
theorem hexC_of {q : List UInt8} (h : q.length = 16) : hexC q = (hexB (lo8 q) && hexB (hi8 q)) := by unfold hexC; rw [decide_eq_true h]; rfl
def rcB (l : List UInt8) : Bool := noneB l || (decide ((pcs l).length ≤ 256) && allB (fun i => hexC (pieceN l i)) (pcs l).length)
def rcN (l : List UInt8) : Nat := if rcB l && !noneB l then (pcs l).length else 0
theorem rcN_le (l : List UInt8) : rcN l ≤ 256 := by
  unfold rcN
  cases h1 : noneB l with
  | true => rw [Bool.not_true, Bool.and_false]; simp
  | false =>
    cases h2 : rcB l with
    | false => simp
    | true =>
      unfold rcB at h2
      rw [h1, Bool.false_or, Bool.and_eq_true, decide_eq_true_eq] at h2
      simpa using h2.1
abbrev reX (l : List UInt8) : Nat → Nat := fun i => valH (lo8 (pieceN l i))
abbrev imX (l : List UInt8) : Nat → Nat := fun i => valH (hi8 (pieceN l i))
def cxs (ps : List (Nat × Nat)) : List Value := ps.map fun p => .complex .f32 p.1 p.2
/-- a row of complex numbers of the call's own -/
def CRw (w wr : World) (v : Value) (ps : List (Nat × Nat)) : Prop := ∃ g cap, v = .slice (some ⟨g, 0, none⟩) ps.length cap ∧ wr.ownsRow w.heap.size 68 1 v ps.length (cxs ps) ∧ Bel w wr
theorem CRw.bel {w wr w1 : World} {v : Value} {ps : List (Nat × Nat)} (h : CRw w wr v ps) (hb : Bel wr w1) : CRw w w1 v ps := by
  obtain ⟨g, cap, rfl, h1, h2⟩ := h
  exact ⟨g, cap, rfl, own_belx (bs := none) h1 (BelX.of hb) (by intro j hj; cases hj), h2.trans hb⟩
theorem CRw.start (w wr : World) (hb : Bel w wr) : CRw w (wr.alloc (.cells #[] 68)) (.slice (some ⟨wr.heap.size, 0, none⟩) 0 0) [] :=
  ⟨_, _, rfl, World.ownsRow_made wr #[] 0 hb.size (by unfold maxLen; omega) rfl, hb.alloc _⟩
theorem CRw.next {w wr w2 : World} {v v2 : Value} {ps : List (Nat × Nat)} {x y : Nat} {o : Obj} (h : CRw w wr v ps) (hown : w2.ownsRow w.heap.size 68 1 v2 (ps.length + 1) (cxs ps ++ [.complex .f32 x y])) (hg : (wr.alloc o).grownBy w2 v.ownBlock) : CRw w w2 v2 (ps ++ [(x, y)]) := by
  obtain ⟨g, cap, rfl, h1, h2⟩ := h
  have e : cxs ps ++ [.complex .f32 x y] = cxs (ps ++ [(x, y)]) := by simp [cxs]
  have e2 : ps.length + 1 = (ps ++ [(x, y)]).length := by simp
  rw [e] at hown
  obtain ⟨g2, cap2, rfl⟩ := own_succ hown
  have hs := h2.size
  have hb : Below w.heap.size (wr.alloc o) w2 := (Below.refl _ _).grown hg (by simp; omega) (own_row h1)
  exact ⟨g2, cap2, by rw [e2], by rw [← e2]; exact hown, Below.trans (h2.alloc o) hb⟩
theorem PBlk.nextC {w wr w2 : World} {v : Value} {ps : List (Nat × Nat)} {g N : Nat} {o : Obj} {f : Nat → List UInt8} {cs : Array Value} (h : PBlk wr g N f cs) (hI : CRw w wr v ps) (hg : (wr.alloc o).grownBy w2 v.ownBlock) : PBlk w2 g N f cs := by
  obtain ⟨g1, cap, rfl, h1, h2⟩ := hI
  refine ⟨grown_keep (w1 := wr.alloc o) (o := .cells cs 9 (0, 0)) ?_ ?_ hg (own_far h1 (by decide) h.heap), h.at'⟩
  · rw [((Bel.refl wr).alloc o).block g h.lt]; exact h.heap
  · have := h.lt; simp; omega
def fsts (ps : List (Nat × Nat)) : List Nat := ps.map (·.1)
def snds (ps : List (Nat × Nat)) : List Nat := ps.map (·.2)
theorem CRw.done {w wr : World} {v : Value} {ps : List (Nat × Nat)} (h : CRw w wr v ps) : ∃ ao c, v = .slice ao ps.length c ∧ VORow w.heap.size wr.heap.size wr ao ps.length (cvals (fsts ps) (snds ps)) := by
  obtain ⟨g, cap, rfl, h1, h2⟩ := h
  refine ⟨_, cap, rfl, ⟨fun hn => ⟨g, 0, rfl, (World.ownsRow.lt h1 g rfl).2, fun i hi => ?_⟩⟩, fun a ha => ?_⟩
  · have := World.ownsRow.cells h1 rfl i _ (show (cxs ps)[i]? = some (cvals (fsts ps) (snds ps) i) by simp [cxs, cvals, fsts, snds, hi, List.getD_eq_getElem?_getD])
    rw [Nat.zero_add]
    unfold Addr.add at this
    simp at this
    split at this
    · rename_i h0; rw [h0]; rw [h0] at this; exact this
    · exact this
  · cases ha
    rcases h1.2 with ⟨e, _⟩ | ⟨g2, cap2, cur, e, hb, h3, _⟩
    · cases e
    · cases e
      have hl := (Array.getElem?_eq_some_iff.1 h3).1
      exact ⟨hb, hl, hl, cells_free h3⟩
structure RcS (l : List UInt8) (k : Nat) (ps : List (Nat × Nat)) : Prop where
  len : ps.length = k
  is : CSet k (fsts ps) (snds ps) (reX l) (imX l)
theorem RcS.start (l : List UInt8) : RcS l 0 [] := ⟨rfl, fun j h => absurd h (by omega)⟩
theorem RcS.next {l : List UInt8} {k x y : Nat} {ps : List (Nat × Nat)} (h : RcS l k ps) (hx : Is .f32 x (reX l k)) (hy : Is .f32 y (imX l k)) : RcS l (k + 1) (ps ++ [(x, y)]) := by
  have hl := h.len
  refine ⟨by simp [hl], fun j hj => ?_⟩
  have e1 : (fsts ps).length = k := by simp [fsts, hl]
  have e2 : (snds ps).length = k := by simp [snds, hl]
  have f1 : fsts (ps ++ [(x, y)]) = fsts ps ++ [x] := by simp [fsts]
  have f2 : snds (ps ++ [(x, y)]) = snds ps ++ [y] := by simp [snds]
  rw [f1, f2]
  by_cases hlt : j < k
  · have := h.is j hlt
    rw [List.getD_eq_getElem?_getD, List.getD_eq_getElem?_getD] at this ⊢
    rw [List.getElem?_append_left (by omega), List.getElem?_append_left (by omega)]
    exact this
  · obtain rfl : j = k := by omega
    rw [List.getD_eq_getElem?_getD, List.getD_eq_getElem?_getD, List.getElem?_append_right (by omega), List.getElem?_append_right (by omega), e1, e2, Nat.sub_self]
    exact ⟨hx, hy⟩
/-- the complex numbers whose text a text is -/
def RCRet (l : List UInt8) (w : World) (e : Ending) (w' : World) : Prop := ∃ xs ys ao c, e = .returned (.tuple #[.slice ao (rcN l) c, .bool (rcB l)]) ∧ VORow w.heap.size w'.heap.size w' ao (rcN l) (cvals xs ys) ∧ CSet (rcN l) xs ys (reX l) (imX l) ∧ Bel w w'
theorem RCRet.no {l : List UInt8} {w w' : World} (h : rcB l = false) (hb : Bel w w') : RCRet l w (.returned (.tuple #[.slice none 0 0, .bool false])) w' := by
  have e : rcN l = 0 := by unfold rcN; rw [h]; rfl
  refine ⟨[], [], none, 0, by rw [e, h], ?_, fun j hj => absurd hj (by omega), hb⟩
  rw [e]; exact VORow.nil _ _ _ _
theorem RCRet.yes {l : List UInt8} {w w' : World} {v : Value} {k : Nat} {ps : List (Nat × Nat)} (h : rcB l = true) (hk : rcN l = k) (hI : CRw w w' v ps) (hS : RcS l k ps) : RCRet l w (.returned (.tuple #[v, .bool true])) w' := by
  have hl := hS.len
  obtain ⟨ao, c, rfl, hO⟩ := hI.done
  obtain ⟨_, _, _, _, hb⟩ := hI
  subst hk
  rw [hl] at hO ⊢
  exact ⟨_, _, ao, c, by rw [h], hO, hS.is, hb⟩
/-- what a reading of eight digits gives, the world as it was -/
def LDRet (l : List UInt8) (w : World) (e : Ending) (w' : World) : Prop := ∃ r X, e = .returned (.tuple #[.float .f32 r, .bool (hexB l)]) ∧ Is .f32 r X ∧ (hexB l = true → X = valH l) ∧ w = w'
set_option maxRecDepth 100000 in
set_option maxHeartbeats 4000000 in
theorem l01Digits_any (w : World) (q : List UInt8) (hq : q.length = 8) : Calls Tryd.prog 71 #[.string ⟨q.toArray⟩] w (LDRet q w) := by
  have hqs := size_at q
  rw [hq] at hqs
  have hq8 := Lib.hid hq
  have hget := Lib.hid (fun j (hj : j < q.length) => byte_at hj)
  clear hq
  go_enter Tryd.func71, Tryd.ntmps71
  go_wp2_with fail
  go_loop [4, 5] (fun nv jv => ∃ (j a : Nat), j ≤ 8 ∧ jv = .int .i64 (j : Int) ∧ nv = .int .i64 (a : Int) ∧ Hid (DgS q j a)) (fun _ jv => 8 - (intOf jv).toNat)
  case atStart => exact ⟨0, 0, by omega, rfl, rfl, Lib.hid (DgS.start q)⟩
  case round =>
    obtain ⟨j, a, hj, rfl, rfl, hD⟩ := hrel
    have ha := hD.out.lt hq8.out
    by_cases hlt8 : j < 8
    · have hjl := Lib.hid (show j < q.length by have := hq8.out; omega)
      obtain ⟨B, hB⟩ : ∃ B, B = (q.getD j 0).toNat := ⟨_, rfl⟩
      have hg := hget.out j hjl.out
      rw [← hB] at hg
      have hg2 : (q[j]?.getD 0).toNat = B := by rw [← List.getD_eq_getElem?_getD]; exact hB.symm
      have hB256 : B < 256 := by rw [hB]; exact (q.getD j 0).toNat_lt
      by_cases hd1 : 48 ≤ B ∧ B ≤ 57
      · have hN2 := Lib.hid (hD.out.next hjl.out (hdig_a hB hd1.1 hd1.2))
        replace hB := Lib.hid hB
        obtain ⟨d, hd⟩ : ∃ d, d = B - 48 := ⟨_, rfl⟩
        have hdI : (B : Int) - 48 = (d : Int) := by omega
        have hd10 : d < 10 := by omega
        have hB48 : (48 : Int) ≤ (B : Int) := by omega
        have hB57 : (B : Int) ≤ 57 := by omega
        have hB97 : ¬ (97 : Int) ≤ (B : Int) := by omega
        have hd0 : ¬ (d : Int) < 0 := by omega
        rw [← hd] at hN2
        replace hd := Lib.hid hd
        clear hd1
        go_wp2_with fail
        refine ⟨⟨j + 1, 16 * a + d, by omega, by simp, by simp, hN2⟩, ?_⟩
        show 8 - (((j : Nat) : Int) + 1).toNat < 8 - ((j : Nat) : Int).toNat
        omega
      · by_cases hd2 : 97 ≤ B ∧ B ≤ 102
        · have hN2 := Lib.hid (hD.out.next hjl.out (hdig_b hB hd2.1 hd2.2))
          replace hB := Lib.hid hB
          obtain ⟨f, hf⟩ : ∃ f, f = B - 97 := ⟨_, rfl⟩
          obtain ⟨d, hd⟩ : ∃ d, d = f + 10 := ⟨_, rfl⟩
          have hfI : (B : Int) - 97 = (f : Int) := by omega
          have hdI : (f : Int) + 10 = (d : Int) := by omega
          have hd16 : d < 16 := by omega
          have hB57 : ¬ (B : Int) ≤ 57 := by omega
          have hB48 : (48 : Int) ≤ (B : Int) := by omega
          have hB97 : (97 : Int) ≤ (B : Int) := by omega
          have hB102 : (B : Int) ≤ 102 := by omega
          have hd0 : ¬ (d : Int) < 0 := by omega
          rw [← hf, ← hd] at hN2
          replace hd := Lib.hid hd
          replace hf := Lib.hid hf
          clear hd1 hd2
          go_wp2_with fail
          refine ⟨⟨j + 1, 16 * a + d, by omega, by simp, by simp, hN2⟩, ?_⟩
          show 8 - (((j : Nat) : Int) + 1).toNat < 8 - ((j : Nat) : Int).toNat
          omega
        · have hno := Lib.hid (show hexB q = false from hexB_dig hjl.out (hdig_c hB hd1 hd2))
          replace hB := Lib.hid hB
          have hsp : B < 48 ∨ (57 < B ∧ B < 97) ∨ 102 < B := by omega
          clear hd1 hd2
          rcases hsp with h48 | ⟨h57, h97⟩ | h102
          all_goals
            go_wp2_with fail
            refine bodyPost_ret (v := .tuple #[.float .f32 0, .bool false]) (by simp [results, Tryd.results71, go_sem]) rfl ?_
            exact ⟨0, 0, by rw [hno.out], Is.lit (by decide +kernel), (fun e => by rw [hno.out] at e; cases e), rfl⟩
    · obtain rfl : j = 8 := by omega
      obtain ⟨e1, e2⟩ := hD.out.done hq8.out
      replace e1 := Lib.hid e1
      have hi := Lib.hid (show Is .f32 a (cn .f32 a) from ⟨by rw [w32]; exact ha, rfl⟩)
      cases hc : (cn .f32 a == a) with
      | false =>
        have hno := Lib.hid (show hexB q = false by rw [e2, hc])
        have hne : cn .f32 a ≠ a := by simpa using hc
        obtain ⟨Z, hZ⟩ : ∃ Z, Z = cn .f32 a := ⟨_, rfl⟩
        rw [← hZ] at hne hi
        replace hZ := Lib.hid hZ
        have hneI : ¬ (Z : Int) = (a : Int) := by omega
        have hneB : ((Z : Int) != (a : Int)) = true := by simp; omega
        replace e2 := Lib.hid e2
        clear hc
        go_wp2_with fail
        refine (l01From_any a ha _).mono ?_
        rintro e w' ⟨rfl, rfl⟩
        go_wp2_with fail
        refine (l01Bits_any _ _ hi.out _).mono ?_
        rintro e w' ⟨rfl, rfl⟩
        go_wp2_with fail
        refine bodyPost_ret (v := .tuple #[.float .f32 0, .bool false]) (by simp [results, Tryd.results71, go_sem]) rfl ?_
        exact ⟨0, 0, by rw [hno.out], Is.lit (by decide +kernel), (fun e => by rw [hno.out] at e; cases e), rfl⟩
      | true =>
        have hyes := Lib.hid (show hexB q = true by rw [e2, hc])
        have hce : cn .f32 a = a := by simpa using hc
        have hi2 := Lib.hid (show Is .f32 a a from ⟨hi.out.1, hce⟩)
        replace e2 := Lib.hid e2
        clear hc hce hi
        go_wp2_with fail
        refine (l01From_any a ha _).mono ?_
        rintro e w' ⟨rfl, rfl⟩
        go_wp2_with fail
        refine (l01Bits_any _ _ hi2.out _).mono ?_
        rintro e w' ⟨rfl, rfl⟩
        go_wp2_with fail
        refine bodyPost_ret (v := .tuple #[.float .f32 a, .bool true]) (by simp [results, Tryd.results71, go_sem]) rfl ?_
        exact ⟨a, a, by rw [hyes.out], hi2.out, fun _ => e1.out, rfl⟩
theorem len_lo8 {q : List UInt8} (h : q.length = 16) : (lo8 q).length = 8 := by simp [lo8, h]
theorem len_hi8 {q : List UInt8} (h : q.length = 16) : (hi8 q).length = 8 := by simp [hi8, h]
theorem cut_lo {q : List UInt8} (h : q.length = 16) : (⟨q.toArray⟩ : ByteArray).extract 0 8 = ⟨(lo8 q).toArray⟩ := by rw [extract_at, List.drop_zero]
theorem cut_hi {q : List UInt8} (h : q.length = 16) : (⟨q.toArray⟩ : ByteArray).extract 8 16 = ⟨(hi8 q).toArray⟩ := by rw [extract_at, List.take_of_length_le (by omega)]
set_option maxRecDepth 100000 in
set_option maxHeartbeats 4000000 in
theorem l01CRead_any (w : World) (l : List UInt8) (hl : l.length ≤ 1048576) : Calls Tryd.prog 53 #[.string ⟨l.toArray⟩] w (RCRet l w) := by
  obtain ⟨i0, hi0, hz0, hz1, hz2⟩ := info_parts infoC64
  cases hq : noneB l with
  | true =>
    have hb := Lib.hid (show rcB l = true by unfold rcB; rw [hq]; rfl)
    have hN := Lib.hid (show rcN l = 0 by unfold rcN; rw [hq, Bool.not_true, Bool.and_false]; rfl)
    obtain rfl : l = [110, 111, 110, 101] := by unfold noneB at hq; simpa using hq
    clear hq
    go_enter Tryd.func53, Tryd.ntmps53
    go_wp2_with fail
    refine bodyPost_ret (v := .tuple #[.slice (some ⟨w.heap.size, 0, none⟩) 0 0, .bool true]) (by simp [results, Tryd.results53, go_sem]) rfl ?_
    exact RCRet.yes (k := 0) (ps := []) hb.out hN.out (CRw.start w w (Bel.refl _)) (RcS.start _)
  | false =>
    have hcmp : (l == [110, 111, 110, 101]) = false := hq
    have hcmp2 : ¬ l = [110, 111, 110, 101] := by unfold noneB at hq; simpa using hq
    obtain ⟨N, hN⟩ : ∃ N, N = (pcs l).length := ⟨_, rfl⟩
    have hP := Lib.hid (piece_len l)
    have hl' := Lib.hid hl
    have hNl : N ≤ 1048577 := by rw [hN]; exact Nat.le_trans (pc_len 44 l []) (by omega)
    by_cases h256 : N ≤ 256
    · have hrd := Lib.hid (show rcB l = allB (fun i => hexC (pieceN l i)) N by unfold rcB; rw [hq, ← hN, decide_eq_true h256]; rfl)
      have hrn := Lib.hid (show rcB l = true → rcN l = N from fun e => by unfold rcN; rw [e, hq, ← hN]; rfl)
      replace hq := Lib.hid hq
      replace hN := Lib.hid hN
      go_enter Tryd.func53, Tryd.ntmps53
      go_wp2_with fail
      refine (l01Cut_any _ l hl'.out).mono ?_
      rintro e w1 ⟨v5, rfl, hL⟩
      rw [← hN.out] at hL
      have hB1 := hL.b
      obtain ⟨g5, cap5, cs, rfl, hg5, hPB⟩ := hL.blk
      have hI := Lib.hid ((CRw.start w w (Bel.refl w)).bel hB1)
      replace hPB := Lib.hid hPB
      clear hL hB1 hg5 hcmp hcmp2
      go_wp2_with fail
      go_loopw [4, 6] (fun v iv wr => ∃ (k : Nat) (ps : List (Nat × Nat)), k ≤ N ∧ iv = .int .i64 (k : Int) ∧ Hid (allB (fun i => hexC (pieceN l i)) k = true) ∧ Hid (RcS l k ps) ∧ Hid (CRw w wr v ps) ∧ Hid (PBlk wr g5 N (pieceN l) cs)) (fun _ iv _ => N - (intOf iv).toNat)
      case atStart => exact ⟨0, [], Nat.zero_le _, rfl, Lib.hid rfl, Lib.hid (RcS.start l), hI, hPB⟩
      case round =>
        obtain ⟨k, ps, hk, rfl, hs, hR, hS, hPk⟩ := hrel
        have hlen := hR.out.len
        obtain ⟨g, cap, rfl, hown, hbel⟩ := hS.out
        by_cases hlt : k < N
        · have h1 := hPk.out.cell hlt
          have hbel' := Lib.hid hbel
          clear hown hbel
          obtain ⟨q, hq'⟩ : ∃ q, q = pieceN l k := ⟨_, rfl⟩
          rw [← hq'] at h1
          have hqs := size_at q
          obtain ⟨m, hm⟩ : ∃ m, m = q.length := ⟨_, rfl⟩
          have hm2 : m ≤ 1048576 := by rw [hm, hq']; have := hP.out k; have := hl'.out; omega
          rw [← hm] at hqs
          by_cases h8 : m = 16
          · subst h8
            have hq8 := Lib.hid hm.symm
            have hval := Lib.hid (show hexC (pieceN l k) = (hexB (lo8 q) && hexB (hi8 q)) by rw [← hq']; exact hexC_of hq8.out)
            have hre := Lib.hid (show reX l k = valH (lo8 q) by rw [hq'])
            have him := Lib.hid (show imX l k = valH (hi8 q) by rw [hq'])
            replace hq' := Lib.hid hq'
            clear hm
            go_wp2_with fail
            rw [cut_lo hq8.out]
            refine (l01Digits_any _ _ (len_lo8 hq8.out)).mono ?_
            rintro e w' ⟨r, X, rfl, hr, hX, rfl⟩
            have hX' := Lib.hid hX
            have hr' := Lib.hid hr
            clear hr hX
            obtain ⟨b1, hb1⟩ : ∃ b, b = hexB (lo8 q) := ⟨_, rfl⟩
            rw [← hb1]
            replace hb1 := Lib.hid hb1
            go_wp2_with fail
            rw [cut_hi hq8.out]
            refine (l01Digits_any _ _ (len_hi8 hq8.out)).mono ?_
            rintro e w' ⟨s, Y, rfl, hr, hX, rfl⟩
            have hY' := Lib.hid hX
            have hs' := Lib.hid hr
            clear hr hX
            obtain ⟨b2, hb2⟩ : ∃ b, b = hexB (hi8 q) := ⟨_, rfl⟩
            rw [← hb2]
            replace hb2 := Lib.hid hb2
            cases b1 with
            | false =>
              have hno := Lib.hid (show rcB l = false by
                rw [hrd.out]
                exact allB_no hlt (by rw [hval.out, ← hb1.out]; rfl))
              go_wp2_with fail
              refine bodyPost_ret (v := .tuple #[.slice none 0 0, .bool false]) (by simp [results, Tryd.results53, go_sem]) rfl ?_
              exact RCRet.no hno.out hbel'.out
            | true =>
              cases b2 with
              | false =>
                have hno := Lib.hid (show rcB l = false by
                  rw [hrd.out]
                  exact allB_no hlt (by rw [hval.out, ← hb2.out, Bool.and_false]))
                go_wp2_with fail
                refine bodyPost_ret (v := .tuple #[.slice none 0 0, .bool false]) (by simp [results, Tryd.results53, go_sem]) rfl ?_
                exact RCRet.no hno.out hbel'.out
              | true =>
                have hs2 := Lib.hid (show allB (fun i => hexC (pieceN l i)) (k + 1) = true from allB_succ hs.out (by rw [hval.out, ← hb1.out, ← hb2.out]; rfl))
                have hR2 := Lib.hid (hR.out.next (x := r) (y := s) (by rw [hre.out, ← hX'.out hb1.out.symm]; exact hr'.out) (by rw [him.out, ← hY'.out hb2.out.symm]; exact hs'.out))
                obtain ⟨_, _, hvv, hown, hbel⟩ := hS.out
                cases hvv
                rw [hlen] at hown
                have hbs := hbel.size
                clear hb1 hb2 hX' hY' hr' hs'
                go_wp2_with (at_builtin; refine wpList_app1 rfl _ _ 44 rfl w.heap.size 68 i0 _ 8 Tryd.underlying44 hi0 hz0 hz1 hz2 rfl (.slice (some ⟨g, 0, none⟩) k cap) k _ rfl hown rfl rfl (by omega) (by unfold maxLen; omega) hbs ?_; intro v2 w3 hown2 hgrow)
                rw [← hlen] at hown2 hgrow
                have hN2 := Lib.hid (hS.out.next hown2 hgrow)
                replace hPk := Lib.hid (hPk.out.nextC hS.out hgrow)
                clear hown2 hgrow
                go_wp2_with fail
                refine ⟨⟨k + 1, ps ++ [(r, s)], by omega, by simp, hs2, hR2, hN2, hPk⟩, ?_⟩
                show N - (((k : Nat) : Int) + 1).toNat < N - ((k : Nat) : Int).toNat
                omega
          · have hno := Lib.hid (show rcB l = false by
              rw [hrd.out]
              exact allB_no hlt (by rw [← hq']; exact hexC_len (by omega)))
            have h8I : ((m : Int) == 16) = false := by simp; omega
            have h8J : ((m : Int) != 16) = true := by simp; omega
            replace hm := Lib.hid hm
            replace hq' := Lib.hid hq'
            go_wp2_with fail
            refine bodyPost_ret (v := .tuple #[.slice none 0 0, .bool false]) (by simp [results, Tryd.results53, go_sem]) rfl ?_
            exact RCRet.no hno.out hbel'.out
        · obtain rfl : k = N := by omega
          have hyes := Lib.hid (show rcB l = true by rw [hrd.out]; exact hs.out)
          clear hown
          go_wp2_with fail
          refine bodyPost_ret (v := .tuple #[.slice (some ⟨g, 0, none⟩) ps.length cap, .bool true]) (by simp [results, Tryd.results53, go_sem]) rfl ?_
          exact RCRet.yes hyes.out (hrn.out hyes.out) hS.out hR.out
    · have hno := Lib.hid (show rcB l = false by unfold rcB; rw [hq, ← hN, decide_eq_false h256]; rfl)
      replace hq := Lib.hid hq
      replace hN := Lib.hid hN
      go_enter Tryd.func53, Tryd.ntmps53
      go_wp2_with fail
      refine (l01Cut_any _ l hl'.out).mono ?_
      rintro e w1 ⟨v5, rfl, hL⟩
      rw [← hN.out] at hL
      obtain ⟨g5, cap5, rfl, _, hB1⟩ := hL
      have hB2 := Lib.hid (((Bel.refl w).alloc _).trans hB1)
      clear hB1
      go_wp2_with fail
      refine bodyPost_ret (v := .tuple #[.slice none 0 0, .bool false]) (by simp [results, Tryd.results53, go_sem]) rfl ?_
      exact RCRet.no hno.out hB2.out
theorem sReadComplex_any (w : World) (l : List UInt8) (hl : l.length ≤ 1048576) : Calls Tryd.prog 30 #[.string ⟨l.toArray⟩] w (RCRet l w) := by
  go_enter Tryd.func30, Tryd.ntmps30
  go_wp2_with fail
  refine (l01CRead_any w l hl).mono ?_
  rintro e w' ⟨xs, ys, ao, c, rfl, hO, hX, hB⟩
  replace hO := Lib.hid hO
  replace hX := Lib.hid hX
  replace hB := Lib.hid hB
  go_wp2_with fail
  refine bodyPost_ret (v := .tuple #[.slice ao (rcN l) c, .bool (rcB l)]) (by simp [results, Tryd.results30, go_sem]) rfl ?_
  exact ⟨xs, ys, ao, c, rfl, hO.out, hX.out, hB.out⟩
end Go.Proofs.YtianaalokclklaaDoor
