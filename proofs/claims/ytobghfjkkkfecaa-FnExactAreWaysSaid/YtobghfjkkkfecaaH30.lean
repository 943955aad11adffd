/-
  CONTRACTS: ways of a hill, the program's function.
-/
import Derived.Test.YtobghfjkkkfecaaH29
set_option linter.unusedSimpArgs false
set_option linter.unusedVariables false
namespace Go.Proofs.Ytobghfjkkkfecaa
open Go.RowKit Go.Fl

set_option maxRecDepth 100000 in
set_option maxHeartbeats 4000000 in
theorem iAreWays_any (w : World) (W H : Int) (ao zo : Option Addr) (n c m d : Nat) (xs : List Nat) (z : Nat → Int) (hA : FRow w ao n xs) (hZ : IRow .i64 w zo m z) (hm : n ≤ 1048576) (hm2 : m ≤ 1048576) :
    Calls Try.prog 46 #[hillV W H ao n c, .slice zo m d] w (BRet (.bool (waysB W H n xs m z)) w) := by
  have hA' := Lib.hid (hA.alloc (.cells #[.int .i64 W, .int .i64 H, .slice ao n c] 27))
  have hX' := Lib.hid (hbox_new w W H (.slice ao n c) 27)
  have hW0 := Lib.hid ((Bel.refl w).alloc (.cells #[.int .i64 W, .int .i64 H, .slice ao n c] 27))
  have hZ' := Lib.hid (hZ.bel hW0.out)
  clear hA hZ
  cases hv : validB W H n xs with
  | false =>
    have hR := Lib.hid (show waysB W H n xs m z = false by unfold waysB; rw [hv]; rfl)
    replace hv := Lib.hid hv
    go_enter Try.func46, Try.ntmps46
    go_wp2_with fail
    refine (iValidHill_any _ _ _ _ _ _ xs hA'.out hm).mono ?_
    rintro e w1 ⟨rfl, hB⟩
    rw [hv.out]
    replace hB := Lib.hid hB
    go_wp2_with fail
    go_ret
    exact ⟨ret_bool hR.out.symm, hW0.out.trans hB.out⟩
  | true =>
    obtain ⟨a, b, rfl, rfl, ha1, ha2, hb1, hb2, rfl, _⟩ := valid_nat hv
    have h256 : b * a ≤ 256 := Nat.mul_le_mul hb2 ha2
    have hR0 := Lib.hid (show waysB a b (b * a) xs m z = (decide (m = b * a) && (ways1 a b z (b * a) && ways2 z (b * a) (b * a))) by unfold waysB; rw [hv]; rfl)
    replace hv := Lib.hid hv
    by_cases hmn : m = b * a
    · have hmn' := Lib.hid hmn
      have hR := Lib.hid (show waysB a b (b * a) xs m z = (ways1 a b z m && ways2 z m m) by rw [hR0.out, ← hmn, decide_eq_true rfl]; rfl)
      have hbnd : m ≤ 256 := by omega
      have e1 : ((m : Int) != ((b * a : Nat) : Int)) = false := by rw [hmn]; simp
      have e2 : ((m : Int) != ((b : Int) * (a : Int))) = false := by rw [hmn]; simp
      clear hmn hR0
      go_enter Try.func46, Try.ntmps46
      go_wp2_with fail
      refine (iValidHill_any _ _ _ _ _ _ xs hA'.out hm).mono ?_
      rintro e w1 ⟨rfl, hB⟩
      rw [hv.out]
      have hW := Lib.hid (hW0.out.trans hB)
      replace hX' := Lib.hid (hX'.out.bel hB)
      replace hZ' := Lib.hid (hZ'.out.bel hB)
      clear hB
      obtain ⟨_, x0, x1, x2⟩ := hX'.out
      go_wp2_with fail
      clear x0 x1 x2
      go_loopw [23] (fun t wr => ∃ k : Nat, k ≤ m ∧ t = .int .i64 (k : Int) ∧ Hid (ways1 a b z k = true) ∧ Hid (Bel w1 wr)) (fun t _ => m - (intOf t).toNat)
      case atStart => exact ⟨0, by omega, rfl, Lib.hid rfl, Lib.hid (Bel.refl _)⟩
      case round =>
        obtain ⟨k, hk, rfl, hs, hbw⟩ := hrel
        by_cases hlt : k < m
        · obtain ⟨g, og, rfl, hg1, hg2⟩ := hZ'.out.at0 (by omega)
          have ck := (hbw.out.cell (p := ⟨g, og + k, none⟩) hg1).trans (hg2 k hlt)
          have hki : k < b * a := by have := hmn'.out; omega
          have hwf := i64_wf (hZ'.out.wf k hlt)
          clear hg1 hg2
          obtain ⟨zk, hzk⟩ : ∃ x, x = z k := ⟨_, rfl⟩
          rw [← hzk] at ck hwf
          have hzk' := Lib.hid hzk
          clear hzk
          have hlt' := Lib.hid hlt
          by_cases h0 : zk = -1
          · have e0 : (zk != -1) = false := by simp [h0]
            have hN := Lib.hid (show ways1 a b z (k + 1) = true from allB_succ hs.out (by rw [← hzk'.out, h0]; rfl))
            clear h0
            go_wp2_with fail
            refine ⟨⟨k + 1, by omega, by simp, hN, Lib.hid (hbw.out.trans ((Bel.refl wr).alloc _))⟩, ?_⟩
            show m - (((k : Nat) : Int) + 1).toNat < m - ((k : Nat) : Int).toNat
            omega
          · have e0 : (zk != -1) = true := by simp [h0]
            have hbw1 := Lib.hid (hbw.out.trans ((Bel.refl wr).alloc (.cells #[.int .i64 zk] 2)))
            obtain ⟨_, x0, x1, x2⟩ := hX'.out.bel hbw1.out
            cases hq : bes a b k zk 8 with
            | false =>
              have hN := Lib.hid (show waysB a b (b * a) xs m z = false by rw [hR.out, show ways1 a b z m = false from allB_no hlt (by rw [← hzk'.out, hq, Bool.or_false]; simpa using h0)]; rfl)
              clear h0
              go_wp2_with fail
              refine (neighbours_any _ a b _ _ c k ha1 ha2 hb1 hb2 hki).mono ?_
              rintro e w2 ⟨no, cN, rfl, hNr, hB⟩
              have hcz := Lib.hid ((hB.cell (p := ⟨wr.heap.size, 0, none⟩) (by simp)).trans (show _ = some (.int .i64 zk) by go_simp))
              have hNr' := Lib.hid hNr
              have hbw2 := Lib.hid (hbw1.out.trans hB)
              clear hB hNr
              obtain ⟨L, hL⟩ : ∃ L, L = nbs a b k 8 := ⟨_, rfl⟩
              have hany := Lib.hid ((any_bes a b k zk 8).trans hq)
              have hlen := Lib.hid (nbs_len a b k 8)
              clear x0 x1 x2
              go_wp2_with fail
              refine (contTo_any _ no cN (nbs a b k 8) zk wr.heap.size hNr'.out hcz.out hlen.out).mono ?_
              rintro e w3 ⟨rfl, hB⟩
              rw [hany.out]
              replace hB := Lib.hid hB
              go_wp2_with fail
              go_ret
              exact ⟨ret_bool hN.out.symm, (hW.out.trans hbw2.out).trans hB.out⟩
            | true =>
              have hN := Lib.hid (show ways1 a b z (k + 1) = true from allB_succ hs.out (by rw [← hzk'.out, hq, Bool.or_true]))
              clear h0
              go_wp2_with fail
              refine (neighbours_any _ a b _ _ c k ha1 ha2 hb1 hb2 hki).mono ?_
              rintro e w2 ⟨no, cN, rfl, hNr, hB⟩
              have hcz := Lib.hid ((hB.cell (p := ⟨wr.heap.size, 0, none⟩) (by simp)).trans (show _ = some (.int .i64 zk) by go_simp))
              have hNr' := Lib.hid hNr
              have hbw2 := Lib.hid (hbw1.out.trans hB)
              clear hB hNr
              obtain ⟨L, hL⟩ : ∃ L, L = nbs a b k 8 := ⟨_, rfl⟩
              have hany := Lib.hid ((any_bes a b k zk 8).trans hq)
              have hlen := Lib.hid (nbs_len a b k 8)
              clear x0 x1 x2
              go_wp2_with fail
              refine (contTo_any _ no cN (nbs a b k 8) zk wr.heap.size hNr'.out hcz.out hlen.out).mono ?_
              rintro e w3 ⟨rfl, hB⟩
              rw [hany.out]
              replace hB := Lib.hid hB
              go_wp2_with fail
              refine ⟨⟨k + 1, by omega, by simp, hN, Lib.hid (hbw2.out.trans hB.out)⟩, ?_⟩
              show m - (((k : Nat) : Int) + 1).toNat < m - ((k : Nat) : Int).toNat
              omega
        · obtain rfl : k = m := by omega
          have hin := Lib.hid (fun i (hi : i < k) => ways1_in hs.out hi)
          have hR2 := Lib.hid (show waysB a b (b * a) xs k z = ways2 z k k by rw [hR.out, hs.out]; rfl)
          have hZ2 := Lib.hid (hZ'.out.bel hbw.out)
          have hW2 := Lib.hid (hW.out.trans hbw.out)
          obtain ⟨wo, rfl⟩ : ∃ wo : World, wo = wr := ⟨_, rfl⟩
          clear hR hs hbw hZ'
          go_wp2_with fail
          go_loop [41, 7, 8, 9] (fun t _ _ _ => ∃ j : Nat, j ≤ k ∧ t = .int .i64 (j : Int) ∧ Hid (ways2 z k j = true)) (fun t _ _ _ => k - (intOf t).toNat)
          case atStart => exact ⟨0, by omega, rfl, Lib.hid rfl⟩
          case round =>
            obtain ⟨j, hj, rfl, hs⟩ := hrel
            by_cases hlt2 : j < k
            · go_wp2_with fail
              go_loop [8, 9] (fun p q => ∃ (x : Int) (f : Nat), f ≤ k + 1 ∧ p = .int .i64 x ∧ q = .int .i64 (f : Int) ∧ Hid (ends z (k + 1 - f) x = ends z (k + 1) (j : Int)) ∧ -1 ≤ x ∧ x < (k : Int)) (fun _ q => k + 1 - (intOf q).toNat)
              case atStart => exact ⟨(j : Int), 0, by omega, rfl, rfl, Lib.hid rfl, by omega, by omega⟩
              case round =>
                obtain ⟨x, f, hf, rfl, rfl, he, hx1, hx2⟩ := hrel
                by_cases hx0 : 0 ≤ x
                · by_cases hfk : k < f
                  · have hN := Lib.hid (show waysB a b (b * a) xs k z = false by rw [hR2.out]; exact allB_no hlt2 (by rw [← he.out, show k + 1 - f = 0 by omega]; exact ends_no hx0))
                    go_wp2_with fail
                    go_ret
                    exact ⟨ret_bool hN.out.symm, hW2.out⟩
                  · obtain ⟨y, rfl⟩ := Int.eq_ofNat_of_zero_le hx0
                    have hyk : y < k := by omega
                    obtain ⟨g, og, rfl, hg1, hg2⟩ := hZ2.out.at0 (by omega)
                    have ck := hg2 y hyk
                    clear hg1 hg2
                    have hN := Lib.hid (show ends z (k + 1 - (f + 1)) (z y) = ends z (k + 1) (j : Int) by rw [← he.out, show k + 1 - f = (k + 1 - (f + 1)) + 1 by omega, ends_step])
                    have hzi := hin.out y hyk
                    have hkk := hmn'.out
                    obtain ⟨zy, hzy⟩ : ∃ x, x = z y := ⟨_, rfl⟩
                    rw [← hzy] at ck hzi hN
                    have hz1 : -1 ≤ zy ∧ zy < (k : Int) := by omega
                    obtain ⟨hz2, hz3⟩ := hz1
                    clear hzy hzi hkk
                    go_wp2_with fail
                    refine ⟨⟨zy, f + 1, by omega, rfl, by simp, hN, hz2, hz3⟩, ?_⟩
                    show k + 1 - (((f : Nat) : Int) + 1).toNat < k + 1 - ((f : Nat) : Int).toNat
                    omega
                · have hN := Lib.hid (show ways2 z k (j + 1) = true from allB_succ hs.out (by rw [← he.out]; exact ends_done (by omega)))
                  go_wp2_with fail
                  refine ⟨⟨j + 1, by omega, by simp, hN⟩, ?_⟩
                  show k - (((j : Nat) : Int) + 1).toNat < k - ((j : Nat) : Int).toNat
                  omega
            · obtain rfl : j = k := by omega
              go_wp2_with fail
              go_ret
              exact ⟨ret_bool (by rw [hR2.out]; exact hs.out.symm), hW2.out⟩
    · have hR := Lib.hid (show waysB a b (b * a) xs m z = false by rw [hR0.out, decide_eq_false hmn]; rfl)
      have e1 : ((m : Int) != ((b * a : Nat) : Int)) = true := by simp only [bne_iff_ne, ne_eq]; omega
      have e2 : ((m : Int) != ((b : Int) * (a : Int))) = true := by rw [← Int.natCast_mul]; exact e1
      go_enter Try.func46, Try.ntmps46
      go_wp2_with fail
      refine (iValidHill_any _ _ _ _ _ _ xs hA'.out hm).mono ?_
      rintro e w1 ⟨rfl, hB⟩
      rw [hv.out]
      replace hX' := Lib.hid (hX'.out.bel hB)
      replace hB := Lib.hid hB
      obtain ⟨_, x0, x1, x2⟩ := hX'.out
      go_wp2_with fail
      go_ret
      exact ⟨ret_bool hR.out.symm, hW0.out.trans hB.out⟩
end Go.Proofs.Ytobghfjkkkfecaa
