/-
  CONTRACTS: numbers read, the reference's.
-/
import Derived.Test.YtianaalokclklaaDoorT13
set_option linter.unusedSimpArgs false
set_option linter.unusedVariables false
namespace Go.Proofs.YtianaalokclklaaDoor
open Go.RowKit Go.Fl

theorem valH_take_lt {q : List UInt8} {n : Nat} (h : q.length = n) (hn : n ≤ 8) (j : Nat) : valH (q.take j) < 4294967296 := by
  have h2 := valH_bd (q.take j)
  have h4 : (q.take j).length ≤ 8 := by rw [List.length_take]; omega
  have h5 : (16 : Nat) ^ (q.take j).length ≤ 16 ^ 8 := Nat.pow_le_pow_right (by omega) h4
  have h6 : (16 : Nat) ^ 8 = 4294967296 := by decide
  omega
/-- the digits read so far -/
structure DgS (q : List UInt8) (j a : Nat) : Prop where
  val : a = valH (q.take j)
  all : ∀ i, i < j → 0 ≤ hdig (q.getD i 0)
theorem DgS.start (q : List UInt8) : DgS q 0 0 := ⟨rfl, fun i h => absurd h (by omega)⟩
theorem DgS.next {q : List UInt8} {j a d : Nat} (h : DgS q j a) (hj : j < q.length) (hd : hdig (q.getD j 0) = (d : Int)) : DgS q (j + 1) (16 * a + d) := by
  refine ⟨by rw [valH_take hj, ← h.val, hd]; omega, fun i hi => ?_⟩
  by_cases e : i = j
  · subst e; rw [hd]; omega
  · exact h.all i (by omega)
theorem DgS.lt {q : List UInt8} {j a : Nat} (h : DgS q j a) (hq : q.length = 8) : a < 4294967296 := by rw [h.val]; exact valH_take_lt hq (by omega) j
theorem DgS.done {q : List UInt8} {a : Nat} (h : DgS q 8 a) (hq : q.length = 8) : a = valH q ∧ hexB q = (cn .f32 a == a) := by
  have e : a = valH q := by rw [h.val, List.take_of_length_le (by omega)]
  have h2 : allH q = true := by
    unfold allH
    rw [List.all_eq_true]
    intro c hc
    obtain ⟨i, hi, rfl⟩ := List.getElem_of_mem hc
    have := h.all i (by omega)
    rw [List.getD_eq_getElem?_getD, List.getElem?_eq_getElem hi] at this
    simpa using this
  refine ⟨e, ?_⟩
  unfold hexB
  rw [decide_eq_true hq, h2, ← e]
  rfl
theorem hexB_dig {q : List UInt8} {j : Nat} (hj : j < q.length) (hd : hdig (q.getD j 0) < 0) : hexB q = false := by
  cases h : hexB q with
  | false => rfl
  | true =>
    unfold hexB at h
    rw [Bool.and_eq_true, Bool.and_eq_true] at h
    have := allH_at h.1.2 hj
    omega
theorem hexB_len {q : List UInt8} (h : q.length ≠ 8) : hexB q = false := by unfold hexB; rw [decide_eq_false h]; rfl
theorem hdig_a {c : UInt8} {B : Nat} (hB : B = c.toNat) (h1 : 48 ≤ B) (h2 : B ≤ 57) : hdig c = ((B - 48 : Nat) : Int) := by
  unfold hdig; rw [if_pos (by omega)]; omega
theorem hdig_b {c : UInt8} {B : Nat} (hB : B = c.toNat) (h1 : 97 ≤ B) (h2 : B ≤ 102) : hdig c = ((B - 97 + 10 : Nat) : Int) := by
  unfold hdig; rw [if_neg (by omega), if_pos (by omega)]; omega
theorem hdig_c {c : UInt8} {B : Nat} (hB : B = c.toNat) (h1 : ¬ (48 ≤ B ∧ B ≤ 57)) (h2 : ¬ (97 ≤ B ∧ B ≤ 102)) : hdig c < 0 := by
  unfold hdig; rw [if_neg (by omega), if_neg (by omega)]; omega
set_option maxRecDepth 100000 in
set_option maxHeartbeats 4000000 in
theorem l01NRead_any (w : World) (l : List UInt8) (hl : l.length ≤ 1048576) : Calls Tryd.prog 50 #[.string ⟨l.toArray⟩] w (RNRet l w) := by
  obtain ⟨i0, hi0, hz0, hz1, hz2⟩ := info_parts infoF32
  cases hq : noneB l with
  | true =>
    have hb := Lib.hid (show rdB l = true by unfold rdB; rw [hq]; rfl)
    have hN := Lib.hid (show rdN l = 0 by unfold rdN; rw [hq, Bool.not_true, Bool.and_false]; rfl)
    obtain rfl : l = [110, 111, 110, 101] := by unfold noneB at hq; simpa using hq
    clear hq
    go_enter Tryd.func50, Tryd.ntmps50
    go_wp2_with fail
    refine bodyPost_ret (v := .tuple #[.slice (some ⟨w.heap.size, 0, none⟩) 0 0, .bool true]) (by simp [results, Tryd.results50, go_sem]) rfl ?_
    exact RNRet.yes (k := 0) (xs := []) hb.out hN.out (FRw.start w w (Bel.refl _)) (RdS.start _)
  | false =>
    have hcmp : (l == [110, 111, 110, 101]) = false := hq
    have hcmp2 : ¬ l = [110, 111, 110, 101] := by unfold noneB at hq; simpa using hq
    obtain ⟨N, hN⟩ : ∃ N, N = (pcs l).length := ⟨_, rfl⟩
    have hP := Lib.hid (piece_len l)
    have hl' := Lib.hid hl
    have hNl : N ≤ 1048577 := by rw [hN]; exact Nat.le_trans (pc_len 44 l []) (by omega)
    by_cases h256 : N ≤ 256
    · have hrd := Lib.hid (show rdB l = allB (fun i => hexB (pieceN l i)) N by unfold rdB; rw [hq, ← hN, decide_eq_true h256]; rfl)
      have hrn := Lib.hid (show rdB l = true → rdN l = N from fun e => by unfold rdN; rw [e, hq, ← hN]; rfl)
      replace hq := Lib.hid hq
      replace hN := Lib.hid hN
      go_enter Tryd.func50, Tryd.ntmps50
      go_wp2_with fail
      refine (l01Cut_any _ l hl'.out).mono ?_
      rintro e w1 ⟨v5, rfl, hL⟩
      rw [← hN.out] at hL
      have hB1 := hL.b
      obtain ⟨g5, cap5, cs, rfl, hg5, hPB⟩ := hL.blk
      have hI := Lib.hid ((FRw.start w w (Bel.refl w)).bel hB1)
      replace hPB := Lib.hid hPB
      clear hL hB1 hg5 hcmp hcmp2
      go_wp2_with fail
      go_loopw [4, 6] (fun v iv wr => ∃ (k : Nat) (xs : List Nat), k ≤ N ∧ iv = .int .i64 (k : Int) ∧ Hid (allB (fun i => hexB (pieceN l i)) k = true) ∧ Hid (RdS l k xs) ∧ Hid (FRw w wr v xs) ∧ Hid (PBlk wr g5 N (pieceN l) cs)) (fun _ iv _ => N - (intOf iv).toNat)
      case atStart => exact ⟨0, [], Nat.zero_le _, rfl, Lib.hid rfl, Lib.hid (RdS.start l), hI, hPB⟩
      case round =>
        obtain ⟨k, xs, hk, rfl, hs, hR, hS, hPk⟩ := hrel
        have hlen := hR.out.len
        obtain ⟨g, cap, rfl, hown, hbel⟩ := hS.out
        by_cases hlt : k < N
        · have h1 := hPk.out.cell hlt
          have hbel' := Lib.hid hbel
          clear hown hbel
          obtain ⟨q, hq'⟩ : ∃ q, q = pieceN l k := ⟨_, rfl⟩
          rw [← hq'] at h1
          have hqs := size_at q
          obtain ⟨m, hm⟩ : ∃ m, m = q.length := ⟨_, rfl⟩
          have hm2 : m ≤ 1048576 := by rw [hm, hq']; have := hP.out k; have := hl'.out; omega
          rw [← hm] at hqs
          by_cases h8 : m = 8
          · subst h8
            have hq8 := Lib.hid hm.symm
            replace hq' := Lib.hid hq'
            clear hm
            have hget := Lib.hid (fun j (hj : j < q.length) => byte_at hj)
            obtain ⟨wo, rfl⟩ : ∃ wo : World, wo = wr := ⟨_, rfl⟩
            go_wp2_with fail
            go_loop [7, 8] (fun nv jv => ∃ (j a : Nat), j ≤ 8 ∧ jv = .int .i64 (j : Int) ∧ nv = .int .i64 (a : Int) ∧ Hid (DgS q j a)) (fun _ jv => 8 - (intOf jv).toNat)
            case atStart => exact ⟨0, 0, by omega, rfl, rfl, Lib.hid (DgS.start q)⟩
            case round =>
              obtain ⟨j, a, hj, rfl, rfl, hD⟩ := hrel
              have ha := hD.out.lt hq8.out
              by_cases hlt8 : j < 8
              · have hjl := Lib.hid (show j < q.length by have := hq8.out; omega)
                obtain ⟨B, hB⟩ : ∃ B, B = (q.getD j 0).toNat := ⟨_, rfl⟩
                have hg := hget.out j hjl.out
                rw [← hB] at hg
                have hg2 : (q[j]?.getD 0).toNat = B := by rw [← List.getD_eq_getElem?_getD]; exact hB.symm
                have hB256 : B < 256 := by rw [hB]; exact (q.getD j 0).toNat_lt
                by_cases hd1 : 48 ≤ B ∧ B ≤ 57
                · have hN2 := Lib.hid (hD.out.next hjl.out (hdig_a hB hd1.1 hd1.2))
                  replace hB := Lib.hid hB
                  obtain ⟨d, hd⟩ : ∃ d, d = B - 48 := ⟨_, rfl⟩
                  have hdI : (B : Int) - 48 = (d : Int) := by omega
                  have hd10 : d < 10 := by omega
                  have hB48 : (48 : Int) ≤ (B : Int) := by omega
                  have hB57 : (B : Int) ≤ 57 := by omega
                  have hB97 : ¬ (97 : Int) ≤ (B : Int) := by omega
                  have hd0 : ¬ (d : Int) < 0 := by omega
                  rw [← hd] at hN2
                  replace hd := Lib.hid hd
                  clear hd1
                  go_wp2_with fail
                  refine ⟨⟨j + 1, 16 * a + d, by omega, by simp, by simp, hN2⟩, ?_⟩
                  show 8 - (((j : Nat) : Int) + 1).toNat < 8 - ((j : Nat) : Int).toNat
                  omega
                · by_cases hd2 : 97 ≤ B ∧ B ≤ 102
                  · have hN2 := Lib.hid (hD.out.next hjl.out (hdig_b hB hd2.1 hd2.2))
                    replace hB := Lib.hid hB
                    obtain ⟨f, hf⟩ : ∃ f, f = B - 97 := ⟨_, rfl⟩
                    obtain ⟨d, hd⟩ : ∃ d, d = f + 10 := ⟨_, rfl⟩
                    have hfI : (B : Int) - 97 = (f : Int) := by omega
                    have hdI : (f : Int) + 10 = (d : Int) := by omega
                    have hd16 : d < 16 := by omega
                    have hB57 : ¬ (B : Int) ≤ 57 := by omega
                    have hB48 : (48 : Int) ≤ (B : Int) := by omega
                    have hB97 : (97 : Int) ≤ (B : Int) := by omega
                    have hB102 : (B : Int) ≤ 102 := by omega
                    have hd0 : ¬ (d : Int) < 0 := by omega
                    rw [← hf, ← hd] at hN2
                    replace hd := Lib.hid hd
                    replace hf := Lib.hid hf
                    clear hd1 hd2
                    go_wp2_with fail
                    refine ⟨⟨j + 1, 16 * a + d, by omega, by simp, by simp, hN2⟩, ?_⟩
                    show 8 - (((j : Nat) : Int) + 1).toNat < 8 - ((j : Nat) : Int).toNat
                    omega
                  · have hno := Lib.hid (show rdB l = false by
                      rw [hrd.out]
                      exact allB_no hlt (by rw [← hq'.out]; exact hexB_dig hjl.out (hdig_c hB hd1 hd2)))
                    replace hB := Lib.hid hB
                    have hsp : B < 48 ∨ (57 < B ∧ B < 97) ∨ 102 < B := by omega
                    clear hd1 hd2
                    rcases hsp with h48 | ⟨h57, h97⟩ | h102
                    all_goals
                      go_wp2_with fail
                      refine bodyPost_ret (v := .tuple #[.slice none 0 0, .bool false]) (by simp [results, Tryd.results50, go_sem]) rfl ?_
                      exact RNRet.no hno.out hbel'.out
              · obtain rfl : j = 8 := by omega
                obtain ⟨e1, e2⟩ := hD.out.done hq8.out
                replace e1 := Lib.hid e1
                have hi := Lib.hid (show Is .f32 a (cn .f32 a) from ⟨by rw [w32]; exact ha, rfl⟩)
                cases hc : (cn .f32 a == a) with
                | false =>
                  have hno := Lib.hid (show rdB l = false by
                    rw [hrd.out]
                    exact allB_no hlt (by rw [← hq'.out, e2, hc]))
                  have hne : cn .f32 a ≠ a := by simpa using hc
                  obtain ⟨Z, hZ⟩ : ∃ Z, Z = cn .f32 a := ⟨_, rfl⟩
                  rw [← hZ] at hne hi
                  replace hZ := Lib.hid hZ
                  have hneI : ¬ (Z : Int) = (a : Int) := by omega
                  have hneB : ((Z : Int) != (a : Int)) = true := by simp; omega
                  replace e2 := Lib.hid e2
                  clear hc
                  go_wp2_with fail
                  refine (l01From_any a ha _).mono ?_
                  rintro e w' ⟨rfl, rfl⟩
                  go_wp2_with fail
                  refine (l01Bits_any _ _ hi.out _).mono ?_
                  rintro e w' ⟨rfl, rfl⟩
                  go_wp2_with fail
                  refine bodyPost_ret (v := .tuple #[.slice none 0 0, .bool false]) (by simp [results, Tryd.results50, go_sem]) rfl ?_
                  exact RNRet.no hno.out hbel'.out
                | true =>
                  have hs' := Lib.hid (show allB (fun i => hexB (pieceN l i)) (k + 1) = true from allB_succ hs.out (by rw [← hq'.out, e2, hc]))
                  have hce : cn .f32 a = a := by simpa using hc
                  have hR2 := Lib.hid (hR.out.next (x := a) (by rw [← hq'.out, ← e1.out, ← hce]; rw [hce]; exact ⟨hi.out.1, hce⟩))
                  have hi2 := Lib.hid (show Is .f32 a a from ⟨hi.out.1, hce⟩)
                  replace e2 := Lib.hid e2
                  clear hc hce hi
                  go_wp2_with fail
                  refine (l01From_any a ha _).mono ?_
                  rintro e w' ⟨rfl, rfl⟩
                  go_wp2_with fail
                  refine (l01Bits_any _ _ hi2.out _).mono ?_
                  rintro e w' ⟨rfl, rfl⟩
                  obtain ⟨_, _, hvv, hown, hbel⟩ := hS.out
                  cases hvv
                  rw [hlen] at hown
                  have hbs := hbel.size
                  go_wp2_with (at_builtin; refine wpList_app1 rfl _ _ 30 rfl w.heap.size 54 i0 _ 4 Tryd.underlying30 hi0 hz0 hz1 hz2 rfl (.slice (some ⟨g, 0, none⟩) k cap) k _ rfl hown rfl rfl (by omega) (by unfold maxLen; omega) hbs ?_; intro v2 w3 hown2 hgrow)
                  rw [← hlen] at hown2 hgrow
                  have hN2 := Lib.hid (hS.out.next hown2 hgrow)
                  replace hPk := Lib.hid (hPk.out.nextF hS.out hgrow)
                  clear hown2 hgrow
                  go_wp2_with fail
                  refine ⟨⟨k + 1, xs ++ [a], by omega, by simp, hs', hR2, hN2, hPk⟩, ?_⟩
                  show N - (((k : Nat) : Int) + 1).toNat < N - ((k : Nat) : Int).toNat
                  omega
          · have hno := Lib.hid (show rdB l = false by
              rw [hrd.out]
              exact allB_no hlt (by rw [← hq']; exact hexB_len (by omega)))
            have h8I : ((m : Int) == 8) = false := by simp; omega
            have h8J : ((m : Int) != 8) = true := by simp; omega
            replace hm := Lib.hid hm
            replace hq' := Lib.hid hq'
            go_wp2_with fail
            refine bodyPost_ret (v := .tuple #[.slice none 0 0, .bool false]) (by simp [results, Tryd.results50, go_sem]) rfl ?_
            exact RNRet.no hno.out hbel'.out
        · obtain rfl : k = N := by omega
          have hyes := Lib.hid (show rdB l = true by rw [hrd.out]; exact hs.out)
          clear hown
          go_wp2_with fail
          refine bodyPost_ret (v := .tuple #[.slice (some ⟨g, 0, none⟩) xs.length cap, .bool true]) (by simp [results, Tryd.results50, go_sem]) rfl ?_
          exact RNRet.yes hyes.out (hrn.out hyes.out) hS.out hR.out
    · have hno := Lib.hid (show rdB l = false by unfold rdB; rw [hq, ← hN, decide_eq_false h256]; rfl)
      replace hq := Lib.hid hq
      replace hN := Lib.hid hN
      go_enter Tryd.func50, Tryd.ntmps50
      go_wp2_with fail
      refine (l01Cut_any _ l hl'.out).mono ?_
      rintro e w1 ⟨v5, rfl, hL⟩
      rw [← hN.out] at hL
      obtain ⟨g5, cap5, rfl, _, hB1⟩ := hL
      have hB2 := Lib.hid (((Bel.refl w).alloc _).trans hB1)
      clear hB1
      go_wp2_with fail
      refine bodyPost_ret (v := .tuple #[.slice none 0 0, .bool false]) (by simp [results, Tryd.results50, go_sem]) rfl ?_
      exact RNRet.no hno.out hB2.out
theorem sReadNumbers_any (w : World) (l : List UInt8) (hl : l.length ≤ 1048576) : Calls Tryd.prog 26 #[.string ⟨l.toArray⟩] w (RNRet l w) := by
  go_enter Tryd.func26, Tryd.ntmps26
  go_wp2_with fail
  refine (l01NRead_any w l hl).mono ?_
  rintro e w' ⟨xs, ao, c, rfl, hO, hX, hB⟩
  replace hO := Lib.hid hO
  replace hX := Lib.hid hX
  replace hB := Lib.hid hB
  go_wp2_with fail
  refine bodyPost_ret (v := .tuple #[.slice ao (rdN l) c, .bool (rdB l)]) (by simp [results, Tryd.results26, go_sem]) rfl ?_
  exact ⟨xs, ao, c, rfl, hO.out, hX.out, hB.out⟩
end Go.Proofs.YtianaalokclklaaDoor
