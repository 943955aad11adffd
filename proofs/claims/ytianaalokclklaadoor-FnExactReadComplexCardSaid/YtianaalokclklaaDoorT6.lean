/-
  CONTRACTS: a text cut at its commas; a list read, the reference's.
-/
import Derived.Test.YtianaalokclklaaDoorT4
import Derived.Test.YtianaalokclklaaDoorT5
import Derived.Test.YtianaalokclklaaDoorPc
import Derived.Laws.DeepStrings4
set_option linter.unusedSimpArgs false
set_option linter.unusedVariables false
namespace Go.Proofs.YtianaalokclklaaDoor
open Go.RowKit Go.Fl

theorem extract_at (l : List UInt8) (f k : Nat) : (⟨l.toArray⟩ : ByteArray).extract f k = ⟨((l.take k).drop f).toArray⟩ := by
  apply ByteArray.ext
  apply Array.toList_inj.1
  rw [Lib.extract_data]
  simp [List.drop_take]
set_option maxRecDepth 100000 in
set_option maxHeartbeats 2000000 in
theorem l01Cut_any (w : World) (l : List UInt8) (hl : l.length ≤ 1048576) : Calls Tryd.prog 65 #[.string ⟨l.toArray⟩, .int .u8 44] w (fun e w' => ∃ v, e = .returned v ∧ LRow w w' v (pieceN l) (pcs l).length) := by
  have hsz := size_at l
  obtain ⟨n, hn⟩ : ∃ n, n = l.length := ⟨_, rfl⟩
  have hn' := Lib.hid hn
  rw [← hn] at hsz hl
  have hget := Lib.hid (fun k (hk : k < l.length) => byte_at hk)
  have hNl := Lib.hid (show (pcs l).length ≤ n + 1 by rw [hn]; exact pc_len 44 l [])
  obtain ⟨i0, hi0, hz0, hz1, hz2⟩ := info_parts infoStr
  clear hn
  go_enter Tryd.func65, Tryd.ntmps65
  go_wp2_with fail
  go_loopw [5, 6, 7] (fun v fv kv wr => ∃ m f k : Nat, kv = .int .i64 (k : Int) ∧ fv = .int .i64 (f : Int) ∧ k ≤ n + 1 ∧ Hid (k ≤ n → CInv l m f k) ∧ Hid (k = n + 1 → m = (pcs l).length) ∧ Hid (LRow w wr v (pieceN l) m)) (fun _ _ kv _ => n + 1 - (intOf kv).toNat)
  case atStart => exact ⟨0, 0, 0, rfl, rfl, by omega, Lib.hid (fun _ => CInv.start l), Lib.hid (fun h => absurd h (by omega)), Lib.hid (LRow.start w w _ (Bel.refl _))⟩
  case round =>
    obtain ⟨m, f, k, rfl, rfl, hk, hC, hE, hS⟩ := hrel
    obtain ⟨g, cap, rfl, hown, hbel⟩ := hS.out
    have hbs := hbel.size
    have hX := Lib.hid (extract_at l f k)
    by_cases hkn : k ≤ n
    · have hC1 := Lib.hid (hC.out hkn)
      have hfk := hC1.out.fk
      by_cases hlt : k < n
      · obtain ⟨B, hB⟩ : ∃ B, B = (l.getD k 0).toNat := ⟨_, rfl⟩
        have hg := hget.out k (by have := hn'.out; omega)
        rw [← hB] at hg
        have hg2 : (l[k]?.getD 0).toNat = B := by rw [← List.getD_eq_getElem?_getD]; exact hB.symm
        by_cases h44 : B = 44
        · subst h44
          have hc0 : l.getD k 0 = 44 := UInt8.toNat_inj.1 (hB.symm.trans rfl)
          obtain ⟨hm, hp, hN⟩ := hC1.out.hit (by have := hn'.out; omega) hc0
          have hN' := Lib.hid hN
          have hp' := Lib.hid (piece_at hp)
          have hm2 : m + 1 ≤ n + 1 := by have := hNl.out; omega
          replace hB := Lib.hid hB
          clear hc0 hN hp
          go_wp2_with (at_builtin; refine wpList_app1 rfl _ _ 51 rfl w.heap.size 9 i0 _ 16 Tryd.underlying51 hi0 hz0 hz1 hz2 rfl (.slice (some ⟨g, 0, none⟩) m cap) m _ rfl hown rfl rfl (by omega) (by unfold maxLen; omega) hbs ?_; intro v2 w3 hown2 hgrow)
          have hx2 := hX.out
          rw [hx2, ← hp'.out] at hown2
          have hN2 := Lib.hid (hS.out.next hown2 hgrow)
          clear hown2 hgrow
          refine ⟨⟨m + 1, k + 1, k + 1, by simp, by simp, by omega, Lib.hid (fun _ => hN'.out), Lib.hid (fun e => absurd e (by omega)), hN2⟩, ?_⟩
          show n + 1 - (((k : Nat) : Int) + 1).toNat < n + 1 - ((k : Nat) : Int).toNat
          omega
        · have hc0 : l.getD k 0 ≠ 44 := fun e => h44 (by rw [hB, e]; rfl)
          have hN := Lib.hid (hC1.out.miss (by have := hn'.out; omega) hc0)
          have h44i : ((B : Int) == 44) = false := by simp; omega
          replace hB := Lib.hid hB
          clear hc0
          go_wp2_with fail
          refine ⟨⟨m, f, k + 1, by simp, rfl, by omega, Lib.hid (fun _ => hN.out), Lib.hid (fun e => absurd e (by omega)), hS⟩, ?_⟩
          show n + 1 - (((k : Nat) : Int) + 1).toNat < n + 1 - ((k : Nat) : Int).toNat
          omega
      · obtain rfl : k = n := by omega
        obtain ⟨hm, hp⟩ := hC1.out.last hn'.out
        have hp' := Lib.hid (piece_at hp)
        have hm' := Lib.hid hm
        have hm2 : m + 1 ≤ k + 1 := by have := hNl.out; omega
        clear hm hp
        go_wp2_with (at_builtin; refine wpList_app1 rfl _ _ 51 rfl w.heap.size 9 i0 _ 16 Tryd.underlying51 hi0 hz0 hz1 hz2 rfl (.slice (some ⟨g, 0, none⟩) m cap) m _ rfl hown rfl rfl (by omega) (by unfold maxLen; omega) hbs ?_; intro v2 w3 hown2 hgrow)
        have hx2 := hX.out
        rw [hx2, ← hp'.out] at hown2
        have hN2 := Lib.hid (hS.out.next hown2 hgrow)
        clear hown2 hgrow
        refine ⟨⟨m + 1, k + 1, k + 1, by simp, by simp, by omega, Lib.hid (fun e => absurd e (by omega)), Lib.hid (fun _ => hm'.out), hN2⟩, ?_⟩
        show k + 1 - (((k : Nat) : Int) + 1).toNat < k + 1 - ((k : Nat) : Int).toNat
        omega
    · obtain rfl : k = n + 1 := by omega
      have hm := hE.out rfl
      rw [hm] at hS
      clear hX hown
      go_wp2_with fail
      go_ret
      exact ⟨_, rfl, hS.out⟩
/-- the block of the pieces -/
structure PBlk (wr : World) (g N : Nat) (f : Nat → List UInt8) (cs : Array Value) : Prop where
  heap : wr.heap[g]? = some (.cells cs 9 (0, 0))
  at' : ∀ j, j < N → cs[j]? = some (.string ⟨(f j).toArray⟩)
theorem PBlk.cell {wr : World} {g N : Nat} {f : Nat → List UInt8} {cs : Array Value} (h : PBlk wr g N f cs) {j : Nat} (hj : j < N) : wr.cell? ⟨g, j, none⟩ = some (.string ⟨(f j).toArray⟩) := by
  unfold World.cell?; simp [h.heap, h.at' j hj]
theorem PBlk.lt {wr : World} {g N : Nat} {f : Nat → List UInt8} {cs : Array Value} (h : PBlk wr g N f cs) : g < wr.heap.size := (Array.getElem?_eq_some_iff.1 h.heap).1
theorem PBlk.bel {wr w2 : World} {g N : Nat} {f : Nat → List UInt8} {cs : Array Value} (h : PBlk wr g N f cs) (hb : Bel wr w2) : PBlk w2 g N f cs := ⟨by rw [hb.block g h.lt]; exact h.heap, h.at'⟩
theorem LRow.blk {w wr : World} {v : Value} {f : Nat → List UInt8} {k : Nat} (h : LRow w wr v f k) : ∃ g cap cs, v = .slice (some ⟨g, 0, none⟩) k cap ∧ w.heap.size ≤ g ∧ PBlk wr g k f cs := by
  obtain ⟨g, cap, rfl, h1, h2⟩ := h
  have hc := (LRow.cells h1).1
  rcases h1.2 with ⟨e, _⟩ | ⟨g2, cap2, cur, e, hb, h3, _⟩
  · cases e
  · cases e
    refine ⟨g, cap, cur, rfl, hb, h3, fun j hj => ?_⟩
    have := hc j hj
    unfold World.cell? at this
    simpa [h3] using this
theorem LRow.b {w wr : World} {v : Value} {f : Nat → List UInt8} {k : Nat} (h : LRow w wr v f k) : Bel w wr := by
  obtain ⟨_, _, _, _, hb⟩ := h
  exact hb
def ints (z : Nat → Int) (k : Nat) : List Value := (List.range k).map fun i => .int .i64 (z i)
theorem ints_succ (z : Nat → Int) (k : Nat) : ints z (k + 1) = ints z k ++ [.int .i64 (z k)] := by unfold ints; rw [List.range_succ]; simp
theorem ints_at (z : Nat → Int) {k j : Nat} (h : j < k) : (ints z k)[j]? = some (.int .i64 (z j)) := by simp [ints, h]
/-- a row of integers of the call's own -/
def IRw (w wr : World) (v : Value) (z : Nat → Int) (k : Nat) : Prop := ∃ g cap, v = .slice (some ⟨g, 0, none⟩) k cap ∧ wr.ownsRow w.heap.size 2 1 v k (ints z k) ∧ Bel w wr
theorem IRw.bel {w wr w1 : World} {v : Value} {z : Nat → Int} {k : Nat} (h : IRw w wr v z k) (hb : Bel wr w1) : IRw w w1 v z k := by
  obtain ⟨g, cap, rfl, h1, h2⟩ := h
  exact ⟨g, cap, rfl, own_belx (bs := none) h1 (BelX.of hb) (by intro j hj; cases hj), h2.trans hb⟩
theorem IRw.start (w : World) (z : Nat → Int) : IRw w (w.alloc (.cells #[] 2)) (.slice (some ⟨w.heap.size, 0, none⟩) 0 0) z 0 :=
  ⟨_, _, rfl, World.ownsRow_made w #[] 0 (Nat.le_refl _) (by unfold maxLen; omega) rfl, (Bel.refl w).alloc _⟩
theorem IRw.next {w wr w2 : World} {v v2 : Value} {z : Nat → Int} {k : Nat} {o : Obj} (h : IRw w wr v z k) (hown : w2.ownsRow w.heap.size 2 1 v2 (k + 1) (ints z k ++ [.int .i64 (z k)])) (hg : (wr.alloc o).grownBy w2 v.ownBlock) : IRw w w2 v2 z (k + 1) := by
  obtain ⟨g, cap, rfl, h1, h2⟩ := h
  rw [← ints_succ] at hown
  obtain ⟨g2, cap2, rfl⟩ := own_succ hown
  have hs := h2.size
  have hb : Below w.heap.size (wr.alloc o) w2 := (Below.refl _ _).grown hg (by simp; omega) (own_row h1)
  exact ⟨g2, cap2, rfl, hown, Below.trans (h2.alloc o) hb⟩
theorem PBlk.next {w wr w2 : World} {v : Value} {z : Nat → Int} {k g N : Nat} {o : Obj} {f : Nat → List UInt8} {cs : Array Value} (h : PBlk wr g N f cs) (hI : IRw w wr v z k) (hg : (wr.alloc o).grownBy w2 v.ownBlock) : PBlk w2 g N f cs := by
  obtain ⟨g1, cap, rfl, h1, h2⟩ := hI
  refine ⟨grown_keep (w1 := wr.alloc o) (o := .cells cs 9 (0, 0)) ?_ ?_ hg (own_far h1 (by decide) h.heap), h.at'⟩
  · rw [((Bel.refl wr).alloc o).block g h.lt]; exact h.heap
  · have := h.lt; simp; omega
theorem IRw.done {w wr : World} {v : Value} {z : Nat → Int} {k : Nat} (h : IRw w wr v z k) (hz : ∀ i, i < k → (Lit.int .i64 (z i)).wf = true) : ∃ ao c, v = .slice ao k c ∧ IORow w.heap.size wr.heap.size wr ao k z := by
  obtain ⟨g, cap, rfl, h1, h2⟩ := h
  refine ⟨_, cap, rfl, ⟨fun hn => ⟨g, 0, rfl, (World.ownsRow.lt h1 g rfl).2, fun i hi => ?_⟩, hz⟩, fun a ha => ?_⟩
  · have := World.ownsRow.cells h1 rfl i _ (ints_at z hi)
    rw [Nat.zero_add]
    unfold Addr.add at this
    simp at this
    split at this
    · rename_i h0; rw [h0]; rw [h0] at this; exact this
    · exact this
  · cases ha
    rcases h1.2 with ⟨e, _⟩ | ⟨g2, cap2, cur, e, hb, h3, _⟩
    · cases e
    · cases e
      have hl := (Array.getElem?_eq_some_iff.1 h3).1
      exact ⟨hb, hl, hl, cells_free h3⟩
/-- the list whose text a text is -/
def RLRet (l : List UInt8) (w : World) (e : Ending) (w' : World) : Prop := ∃ ao c, e = .returned (.tuple #[.slice ao (readN l) c, .bool (readB l)]) ∧ IORow w.heap.size w'.heap.size w' ao (readN l) (readZ l) ∧ Bel w w'
theorem none_row {lo hi : Nat} (w : World) (z : Nat → Int) : IORow lo hi w none 0 z := ⟨⟨fun h => absurd h (by omega), fun i h => absurd h (by omega)⟩, fun a h => by cases h⟩
theorem RLRet.no {l : List UInt8} {w w' : World} (h : readB l = false) (hb : Bel w w') : RLRet l w (.returned (.tuple #[.slice none 0 0, .bool false])) w' := by
  have e : readN l = 0 := by unfold readN; rw [h]; rfl
  refine ⟨none, 0, by rw [e, h], ?_, hb⟩
  rw [e]; exact none_row _ _
theorem RLRet.yes {l : List UInt8} {w w' : World} {v : Value} {k : Nat} (h : readB l = true) (hk : readN l = k) (hI : IRw w w' v (readZ l) k) (hz : ∀ i, i < k → (Lit.int .i64 (readZ l i)).wf = true) : RLRet l w (.returned (.tuple #[v, .bool true])) w' := by
  obtain ⟨ao, c, rfl, hO⟩ := hI.done hz
  obtain ⟨_, _, _, _, hb⟩ := hI
  subst hk
  exact ⟨ao, c, by rw [h], hO, hb⟩
theorem none_cmp (l : List UInt8) : (ByteArray.toList ⟨l.toArray⟩ == ByteArray.toList ⟨#[110, 111, 110, 101]⟩) = noneB l := by rw [toList_at, show (⟨#[110, 111, 110, 101]⟩ : ByteArray).toList = [110, 111, 110, 101] from toList_at [110, 111, 110, 101]]; rfl
theorem dec_wf {l : List UInt8} (h : decB l = true) : (Lit.int .i64 (valS l)).wf = true := by
  unfold decB at h
  rw [Bool.and_eq_true] at h
  have := inD_iff.1 h.1
  unfold Lit.wf
  rw [Bool.and_eq_true, decide_eq_true_eq, decide_eq_true_eq]
  exact ⟨by show (-9223372036854775808 : Int) ≤ _; omega, by show _ ≤ (9223372036854775807 : Int); omega⟩
set_option maxRecDepth 100000 in
set_option maxHeartbeats 2000000 in
theorem l01Numbers_any (w : World) (l : List UInt8) (hl : l.length ≤ 1048576) : Calls Tryd.prog 48 #[.string ⟨l.toArray⟩] w (RLRet l w) := by
  obtain ⟨i0, hi0, hz0, hz1, hz2⟩ := info_parts infoI64s
  cases hq : noneB l with
  | true =>
    have hb := Lib.hid (show readB l = true by unfold readB; rw [hq]; rfl)
    have hN := Lib.hid (show readN l = 0 by unfold readN; rw [hq, Bool.not_true, Bool.and_false]; rfl)
    obtain rfl : l = [110, 111, 110, 101] := by unfold noneB at hq; simpa using hq
    clear hq
    go_enter Tryd.func48, Tryd.ntmps48
    go_wp2_with fail
    refine bodyPost_ret (v := .tuple #[.slice (some ⟨w.heap.size, 0, none⟩) 0 0, .bool true]) (by simp [results, Tryd.results48, go_sem]) rfl ?_
    exact RLRet.yes hb.out hN.out (IRw.start w _) (fun i h => absurd h (by omega))
  | false =>
    have hcmp : (l == [110, 111, 110, 101]) = false := hq
    have hcmp2 : ¬ l = [110, 111, 110, 101] := by unfold noneB at hq; simpa using hq
    obtain ⟨N, hN⟩ : ∃ N, N = (pcs l).length := ⟨_, rfl⟩
    have hP := Lib.hid (piece_len l)
    have hl' := Lib.hid hl
    have hNl : N ≤ 1048577 := by rw [hN]; exact Nat.le_trans (pc_len 44 l []) (by omega)
    by_cases h64 : N ≤ 64
    · have hrd := Lib.hid (show readB l = allB (fun i => decB (pieceN l i)) N by unfold readB; rw [hq, ← hN, decide_eq_true h64]; rfl)
      have hrn := Lib.hid (show readB l = true → readN l = N from fun e => by unfold readN; rw [e, hq, ← hN]; rfl)
      replace hq := Lib.hid hq
      replace hN := Lib.hid hN
      go_enter Tryd.func48, Tryd.ntmps48
      go_wp2_with fail
      refine (l01Cut_any _ l hl'.out).mono ?_
      rintro e w1 ⟨v5, rfl, hL⟩
      rw [← hN.out] at hL
      have hB1 := hL.b
      obtain ⟨g5, cap5, cs, rfl, hg5, hPB⟩ := hL.blk
      have hI := Lib.hid ((IRw.start w (readZ l)).bel hB1)
      replace hPB := Lib.hid hPB
      clear hL hB1 hg5 hcmp hcmp2
      go_wp2_with fail
      go_loopw [4, 6] (fun v iv wr => ∃ k : Nat, k ≤ N ∧ iv = .int .i64 (k : Int) ∧ Hid (allB (fun i => decB (pieceN l i)) k = true) ∧ Hid (IRw w wr v (readZ l) k) ∧ Hid (PBlk wr g5 N (pieceN l) cs)) (fun _ iv _ => N - (intOf iv).toNat)
      case atStart => exact ⟨0, Nat.zero_le _, rfl, Lib.hid rfl, hI, hPB⟩
      case round =>
        obtain ⟨k, hk, rfl, hs, hS, hPk⟩ := hrel
        obtain ⟨g, cap, rfl, hown, hbel⟩ := hS.out
        by_cases hlt : k < N
        · have h1 := hPk.out.cell hlt
          clear hown hbel
          cases hd : decB (pieceN l k) with
          | false =>
            have hno := Lib.hid (show readB l = false by rw [hrd.out]; exact allB_no hlt hd)
            replace hd := Lib.hid hd
            go_wp2_with fail
            refine (l01Value_any _ (pieceN l k) (by have := hP.out k; have := hl'.out; omega)).mono ?_
            rintro e w2 ⟨rfl, hB⟩
            rw [hd.out]
            replace hS := Lib.hid (hS.out.bel hB)
            clear hB
            go_wp2_with fail
            refine bodyPost_ret (v := .tuple #[.slice none 0 0, .bool false]) (by simp [results, Tryd.results48, go_sem]) rfl ?_
            obtain ⟨_, _, _, _, hb⟩ := hS.out
            exact RLRet.no hno.out hb
          | true =>
            have hs' := Lib.hid (show allB (fun i => decB (pieceN l i)) (k + 1) = true from allB_succ hs.out hd)
            replace hd := Lib.hid hd
            go_wp2_with fail
            refine (l01Value_any _ (pieceN l k) (by have := hP.out k; have := hl'.out; omega)).mono ?_
            rintro e w2 ⟨rfl, hB⟩
            rw [hd.out]
            replace hS := Lib.hid (hS.out.bel hB)
            replace hPk := Lib.hid (hPk.out.bel hB)
            clear hB
            obtain ⟨_, _, hvv, hown, hbel⟩ := hS.out
            cases hvv
            have hbs := hbel.size
            go_wp2_with (at_builtin; refine wpList_app1 rfl _ _ 24 rfl w.heap.size 2 i0 _ 8 Tryd.underlying24 hi0 hz0 hz1 hz2 rfl (.slice (some ⟨g, 0, none⟩) k cap) k _ rfl hown rfl rfl (by omega) (by unfold maxLen; omega) hbs ?_; intro v2 w3 hown2 hgrow)
            have hN2 := Lib.hid (hS.out.next hown2 hgrow)
            replace hPk := Lib.hid (hPk.out.next hS.out hgrow)
            clear hown2 hgrow
            go_wp2_with fail
            refine ⟨⟨k + 1, by omega, by simp, hs', hN2, hPk⟩, ?_⟩
            show N - (((k : Nat) : Int) + 1).toNat < N - ((k : Nat) : Int).toNat
            omega
        · obtain rfl : k = N := by omega
          have hyes := Lib.hid (show readB l = true by rw [hrd.out]; exact hs.out)
          clear hown
          go_wp2_with fail
          refine bodyPost_ret (v := .tuple #[.slice (some ⟨g, 0, none⟩) k cap, .bool true]) (by simp [results, Tryd.results48, go_sem]) rfl ?_
          exact RLRet.yes hyes.out (hrn.out hyes.out) hS.out (fun i hi => dec_wf (allB_iff.1 hs.out i hi))
    · have hno := Lib.hid (show readB l = false by unfold readB; rw [hq, ← hN, decide_eq_false h64]; rfl)
      replace hq := Lib.hid hq
      replace hN := Lib.hid hN
      go_enter Tryd.func48, Tryd.ntmps48
      go_wp2_with fail
      refine (l01Cut_any _ l hl'.out).mono ?_
      rintro e w1 ⟨v5, rfl, hL⟩
      rw [← hN.out] at hL
      obtain ⟨g5, cap5, rfl, _, hB1⟩ := hL
      have hB2 := Lib.hid (((Bel.refl w).alloc _).trans hB1)
      clear hB1
      go_wp2_with fail
      refine bodyPost_ret (v := .tuple #[.slice none 0 0, .bool false]) (by simp [results, Tryd.results48, go_sem]) rfl ?_
      exact RLRet.no hno.out hB2.out
end Go.Proofs.YtianaalokclklaaDoor
