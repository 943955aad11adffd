/-
  CONTRACTS: ways of a hill, the reference's.
-/
import Derived.Test.YtobghfjkkkfecaaH26
import Derived.Test.YtobghfjkkkfecaaSb
set_option linter.unusedSimpArgs false
set_option linter.unusedVariables false
namespace Go.Proofs.Ytobghfjkkkfecaa
open Go.RowKit Go.Fl

/-- is 'z' a neighbour of the cell, in one of the first 'k' directions -/
def bes (a b i : Nat) (z : Int) : Nat → Bool
  | 0 => false
  | k + 1 => bes a b i z k || (decide (0 ≤ nearI a b i k) && (nearI a b i k == z))
theorem bes_iff {a b i k : Nat} {z : Int} : bes a b i z k = true ↔ ∃ j, j < k ∧ 0 ≤ nearI a b i j ∧ nearI a b i j = z := by
  induction k with
  | zero => simp [bes]
  | succ k ih =>
    rw [bes, Bool.or_eq_true, ih, Bool.and_eq_true, decide_eq_true_eq, beq_iff_eq]
    constructor
    · rintro (⟨j, h1, h2⟩ | h)
      · exact ⟨j, by omega, h2⟩
      · exact ⟨k, by omega, h⟩
    · rintro ⟨j, h1, h2⟩
      by_cases e : j = k
      · subst e; exact .inr h2
      · exact .inl ⟨j, by omega, h2⟩
theorem bes_at {a b i k : Nat} {z : Int} (hk : k < 8) (h0 : 0 ≤ nearI a b i k) (h1 : nearI a b i k = z) : bes a b i z 8 = true := bes_iff.2 ⟨k, hk, h0, h1⟩
set_option maxRecDepth 100000 in
set_option maxHeartbeats 2000000 in
theorem l02Beside_any (w : World) (bx : Nat) (a b : Nat) (sl : Value) (i : Nat) (z : Int) (ha1 : 1 ≤ a) (ha2 : a ≤ 16) (hb1 : 1 ≤ b) (hb2 : b ≤ 16) (hi : i < b * a) (hX : HBox w bx a b sl) :
    Calls Try.prog 105 #[.pointer (some ⟨bx, 0, none⟩), .int .i64 (i : Int), .int .i64 z] w (BRet (.bool (bes a b i z 8)) w) := by
  have hX' := Lib.hid hX
  clear hX
  go_enter Try.func105, Try.ntmps105
  go_wp2_with fail
  refine (l02Near_any w bx a b _ i ha1 ha2 hb1 hb2 hi hX'.out).mono ?_
  rintro e w1 ⟨g, og, cg, rfl, hNe, hB⟩
  have hW := Lib.hid hB
  have hNe' := Lib.hid hNe
  clear hB hNe
  go_wp2_with fail
  go_loop [8] (fun t => ∃ k : Nat, k ≤ 8 ∧ t = .int .i64 (k : Int) ∧ Hid (bes a b i z k = false)) (fun t => 8 - (intOf t).toNat)
  case atStart => exact ⟨0, by omega, rfl, Lib.hid rfl⟩
  case round =>
    obtain ⟨k, hk, rfl, hs⟩ := hrel
    by_cases hlt : k < 8
    · have ck := hNe'.out.cell k hlt
      have hst := Lib.hid (show bes a b i z (k + 1) = (bes a b i z k || (decide (0 ≤ nearI a b i k) && (nearI a b i k == z))) from rfl)
      have hyes := Lib.hid (fun h0 h1 => bes_at (a := a) (b := b) (i := i) (z := z) hlt h0 h1)
      obtain ⟨nk, hnk⟩ : ∃ n, n = nearI a b i k := ⟨_, rfl⟩
      rw [← hnk] at ck
      have hnk' := Lib.hid hnk
      clear hnk
      by_cases h0 : 0 ≤ nk
      · by_cases h1 : nk = z
        · subst h1
          have hR := Lib.hid (hyes.out (by rw [← hnk'.out]; exact h0) hnk'.out.symm)
          go_wp2_with fail
          go_ret
          exact ⟨ret_bool hR.out.symm, hW.out⟩
        · have e1 : (nk == z) = false := by simpa using h1
          have hR := Lib.hid (show bes a b i z (k + 1) = false by rw [hst.out, hs.out, ← hnk'.out, e1, Bool.and_false]; rfl)
          clear h1
          go_wp2_with fail
          go_round
          case rel => exact ⟨k + 1, by omega, by simp, hR⟩
          case measure => simp [intOf]; omega
      · have e0 : decide (0 ≤ nk) = false := decide_eq_false h0
        have hR := Lib.hid (show bes a b i z (k + 1) = false by rw [hst.out, hs.out, ← hnk'.out, e0, Bool.false_and]; rfl)
        clear h0
        go_wp2_with fail
        go_round
        case rel => exact ⟨k + 1, by omega, by simp, hR⟩
        case measure => simp [intOf]; omega
    · obtain rfl : k = 8 := by omega
      go_wp2_with fail
      go_ret
      exact ⟨ret_bool hs.out.symm, hW.out⟩
/-- each way is -1 or leads to a neighbour -/
def ways1 (a b : Nat) (z : Nat → Int) : Nat → Bool := allB fun i => (z i == -1) || bes a b i (z i) 8
/-- does a way end within so many steps -/
def ends (z : Nat → Int) : Nat → Int → Bool
  | 0, at' => decide (at' < 0)
  | f + 1, at' => if at' < 0 then true else ends z f (z at'.toNat)
def ways2 (z : Nat → Int) (n : Nat) : Nat → Bool := allB fun i => ends z (n + 1) (i : Int)
def waysB (W H : Int) (n : Nat) (xs : List Nat) (m : Nat) (z : Nat → Int) : Bool := validB W H n xs && (decide (m = n) && (ways1 W.toNat H.toNat z n && ways2 z n n))
theorem ends_done {z : Nat → Int} {f : Nat} {x : Int} (h : x < 0) : ends z f x = true := by cases f <;> simp [ends, h]
theorem ends_no {z : Nat → Int} {x : Int} (h : 0 ≤ x) : ends z 0 x = false := by rw [ends, decide_eq_false_iff_not]; omega
theorem ends_step {z : Nat → Int} {f m : Nat} : ends z (f + 1) (m : Int) = ends z f (z m) := by rw [ends, if_neg (by omega)]; rfl
theorem ways1_in {a b n : Nat} {z : Nat → Int} (h : ways1 a b z n = true) {i : Nat} (hi : i < n) : z i = -1 ∨ (0 ≤ z i ∧ z i < ((b * a : Nat) : Int)) := by
  have := allB_iff.1 h i hi
  rw [Bool.or_eq_true, beq_iff_eq, bes_iff] at this
  rcases this with g | ⟨j, _, g1, g2⟩
  · exact .inl g
  · have := (near_in (a := a) (b := b) (i := i) (k := j)).2 g1
    exact .inr (by omega)
set_option maxRecDepth 100000 in
set_option maxHeartbeats 4000000 in
theorem l02Ways_any (w : World) (bx : Nat) (W H : Int) (ao zo : Option Addr) (n c m d : Nat) (xs : List Nat) (z : Nat → Int) (hX : HBox w bx W H (.slice ao n c)) (hA : FRow w ao n xs) (hZ : IRow .i64 w zo m z) (hm : n ≤ 1048576) (hm2 : m ≤ 1048576) :
    Calls Try.prog 85 #[.pointer (some ⟨bx, 0, none⟩), .slice zo m d] w (BRet (.bool (waysB W H n xs m z)) w) := by
  have hX' := Lib.hid hX
  have hA' := Lib.hid hA
  have hZ' := Lib.hid hZ
  clear hX hA hZ
  cases hv : validB W H n xs with
  | false =>
    have hR := Lib.hid (show waysB W H n xs m z = false by unfold waysB; rw [hv]; rfl)
    replace hv := Lib.hid hv
    go_enter Try.func85, Try.ntmps85
    go_wp2_with fail
    refine (l02Is_any w _ _ _ _ _ _ xs hX'.out hA'.out hm).mono ?_
    rintro e w1 ⟨rfl, hB⟩
    rw [hv.out]
    replace hB := Lib.hid hB
    go_wp2_with fail
    go_ret
    exact ⟨ret_bool hR.out.symm, hB.out⟩
  | true =>
    obtain ⟨a, b, rfl, rfl, ha1, ha2, hb1, hb2, rfl, _⟩ := valid_nat hv
    have h256 : b * a ≤ 256 := Nat.mul_le_mul hb2 ha2
    have hR0 := Lib.hid (show waysB a b (b * a) xs m z = (decide (m = b * a) && (ways1 a b z (b * a) && ways2 z (b * a) (b * a))) by unfold waysB; rw [hv]; rfl)
    replace hv := Lib.hid hv
    by_cases hmn : m = b * a
    · have hmn' := Lib.hid hmn
      have hR := Lib.hid (show waysB a b (b * a) xs m z = (ways1 a b z m && ways2 z m m) by rw [hR0.out, ← hmn, decide_eq_true rfl]; rfl)
      have hbnd : m ≤ 256 := by omega
      have e1 : ((m : Int) != ((b * a : Nat) : Int)) = false := by rw [hmn]; simp
      have e2 : ((m : Int) != ((b : Int) * (a : Int))) = false := by rw [hmn]; simp
      clear hmn hR0
      go_enter Try.func85, Try.ntmps85
      go_wp2_with fail
      refine (l02Is_any w _ _ _ _ _ _ xs hX'.out hA'.out hm).mono ?_
      rintro e w1 ⟨rfl, hB⟩
      rw [hv.out]
      have hW := Lib.hid hB
      replace hX' := Lib.hid (hX'.out.bel hB)
      replace hZ' := Lib.hid (hZ'.out.bel hB)
      clear hB
      obtain ⟨_, x0, x1, x2⟩ := hX'.out
      go_wp2_with fail
      clear x0 x1 x2
      go_loopw [5] (fun t wr => ∃ k : Nat, k ≤ m ∧ t = .int .i64 (k : Int) ∧ Hid (ways1 a b z k = true) ∧ Hid (Bel w1 wr)) (fun t _ => m - (intOf t).toNat)
      case atStart => exact ⟨0, by omega, rfl, Lib.hid rfl, Lib.hid (Bel.refl _)⟩
      case round =>
        obtain ⟨k, hk, rfl, hs, hbw⟩ := hrel
        by_cases hlt : k < m
        · obtain ⟨g, og, rfl, hg1, hg2⟩ := hZ'.out.at0 (by omega)
          have ck := (hbw.out.cell (p := ⟨g, og + k, none⟩) hg1).trans (hg2 k hlt)
          have hki : k < b * a := by have := hmn'.out; omega
          have hwf := i64_wf (hZ'.out.wf k hlt)
          clear hg1 hg2
          obtain ⟨zk, hzk⟩ : ∃ x, x = z k := ⟨_, rfl⟩
          rw [← hzk] at ck hwf
          have hzk' := Lib.hid hzk
          clear hzk
          have hlt' := Lib.hid hlt
          by_cases h0 : zk = -1
          · have e0 : (zk != -1) = false := by simp [h0]
            have hN := Lib.hid (show ways1 a b z (k + 1) = true from allB_succ hs.out (by rw [← hzk'.out, h0]; rfl))
            clear h0
            go_wp2_with fail
            refine ⟨⟨k + 1, by omega, by simp, hN, hbw⟩, ?_⟩
            show m - (((k : Nat) : Int) + 1).toNat < m - ((k : Nat) : Int).toNat
            omega
          · have e0 : (zk != -1) = true := by simp [h0]
            cases hq : bes a b k zk 8 with
            | false =>
              have hN := Lib.hid (show waysB a b (b * a) xs m z = false by rw [hR.out, show ways1 a b z m = false from allB_no hlt (by rw [← hzk'.out, hq, Bool.or_false]; simpa using h0)]; rfl)
              clear h0
              go_wp2_with fail
              refine (l02Beside_any wr _ a b _ k zk ha1 ha2 hb1 hb2 hki (hX'.out.bel hbw.out)).mono ?_
              rintro e w2 ⟨rfl, hB⟩
              rw [hq]
              replace hB := Lib.hid hB
              go_wp2_with fail
              go_ret
              exact ⟨ret_bool hN.out.symm, (hW.out.trans hbw.out).trans hB.out⟩
            | true =>
              have hN := Lib.hid (show ways1 a b z (k + 1) = true from allB_succ hs.out (by rw [← hzk'.out, hq, Bool.or_true]))
              clear h0
              go_wp2_with fail
              refine (l02Beside_any wr _ a b _ k zk ha1 ha2 hb1 hb2 hki (hX'.out.bel hbw.out)).mono ?_
              rintro e w2 ⟨rfl, hB⟩
              rw [hq]
              replace hB := Lib.hid hB
              go_wp2_with fail
              refine ⟨⟨k + 1, by omega, by simp, hN, Lib.hid (hbw.out.trans hB.out)⟩, ?_⟩
              show m - (((k : Nat) : Int) + 1).toNat < m - ((k : Nat) : Int).toNat
              omega
        · obtain rfl : k = m := by omega
          have hin := Lib.hid (fun i (hi : i < k) => ways1_in hs.out hi)
          have hR2 := Lib.hid (show waysB a b (b * a) xs k z = ways2 z k k by rw [hR.out, hs.out]; rfl)
          have hZ2 := Lib.hid (hZ'.out.bel hbw.out)
          have hW2 := Lib.hid (hW.out.trans hbw.out)
          obtain ⟨wo, rfl⟩ : ∃ wo : World, wo = wr := ⟨_, rfl⟩
          clear hR hs hbw hZ'
          go_wp2_with fail
          go_loop [6, 7, 8] (fun t _ _ => ∃ j : Nat, j ≤ k ∧ t = .int .i64 (j : Int) ∧ Hid (ways2 z k j = true)) (fun t _ _ => k - (intOf t).toNat)
          case atStart => exact ⟨0, by omega, rfl, Lib.hid rfl⟩
          case round =>
            obtain ⟨j, hj, rfl, hs⟩ := hrel
            by_cases hlt2 : j < k
            · go_wp2_with fail
              go_loop [7, 8] (fun p q => ∃ (x : Int) (f : Nat), f ≤ k + 1 ∧ p = .int .i64 x ∧ q = .int .i64 (f : Int) ∧ Hid (ends z (k + 1 - f) x = ends z (k + 1) (j : Int)) ∧ -1 ≤ x ∧ x < (k : Int)) (fun _ q => k + 1 - (intOf q).toNat)
              case atStart => exact ⟨(j : Int), 0, by omega, rfl, rfl, Lib.hid rfl, by omega, by omega⟩
              case round =>
                obtain ⟨x, f, hf, rfl, rfl, he, hx1, hx2⟩ := hrel
                by_cases hx0 : 0 ≤ x
                · by_cases hfk : k < f
                  · have hN := Lib.hid (show waysB a b (b * a) xs k z = false by rw [hR2.out]; exact allB_no hlt2 (by rw [← he.out, show k + 1 - f = 0 by omega]; exact ends_no hx0))
                    go_wp2_with fail
                    go_ret
                    exact ⟨ret_bool hN.out.symm, hW2.out⟩
                  · obtain ⟨y, rfl⟩ := Int.eq_ofNat_of_zero_le hx0
                    have hyk : y < k := by omega
                    obtain ⟨g, og, rfl, hg1, hg2⟩ := hZ2.out.at0 (by omega)
                    have ck := hg2 y hyk
                    clear hg1 hg2
                    have hN := Lib.hid (show ends z (k + 1 - (f + 1)) (z y) = ends z (k + 1) (j : Int) by rw [← he.out, show k + 1 - f = (k + 1 - (f + 1)) + 1 by omega, ends_step])
                    have hzi := hin.out y hyk
                    have hkk := hmn'.out
                    obtain ⟨zy, hzy⟩ : ∃ x, x = z y := ⟨_, rfl⟩
                    rw [← hzy] at ck hzi hN
                    have hz1 : -1 ≤ zy ∧ zy < (k : Int) := by omega
                    obtain ⟨hz2, hz3⟩ := hz1
                    clear hzy hzi hkk
                    go_wp2_with fail
                    refine ⟨⟨zy, f + 1, by omega, rfl, by simp, hN, hz2, hz3⟩, ?_⟩
                    show k + 1 - (((f : Nat) : Int) + 1).toNat < k + 1 - ((f : Nat) : Int).toNat
                    omega
                · have hN := Lib.hid (show ways2 z k (j + 1) = true from allB_succ hs.out (by rw [← he.out]; exact ends_done (by omega)))
                  go_wp2_with fail
                  refine ⟨⟨j + 1, by omega, by simp, hN⟩, ?_⟩
                  show k - (((j : Nat) : Int) + 1).toNat < k - ((j : Nat) : Int).toNat
                  omega
            · obtain rfl : j = k := by omega
              go_wp2_with fail
              go_ret
              exact ⟨ret_bool (by rw [hR2.out]; exact hs.out.symm), hW2.out⟩
    · have hR := Lib.hid (show waysB a b (b * a) xs m z = false by rw [hR0.out, decide_eq_false hmn]; rfl)
      have e1 : ((m : Int) != ((b * a : Nat) : Int)) = true := by simp only [bne_iff_ne, ne_eq]; omega
      have e2 : ((m : Int) != ((b : Int) * (a : Int))) = true := by rw [← Int.natCast_mul]; exact e1
      go_enter Try.func85, Try.ntmps85
      go_wp2_with fail
      refine (l02Is_any w _ _ _ _ _ _ xs hX'.out hA'.out hm).mono ?_
      rintro e w1 ⟨rfl, hB⟩
      rw [hv.out]
      replace hX' := Lib.hid (hX'.out.bel hB)
      replace hB := Lib.hid hB
      obtain ⟨_, x0, x1, x2⟩ := hX'.out
      go_wp2_with fail
      go_ret
      exact ⟨ret_bool hR.out.symm, hB.out⟩
set_option maxHeartbeats 1000000 in
theorem sAreWays_any (w : World) (W H : Int) (ao zo : Option Addr) (n c m d : Nat) (xs : List Nat) (z : Nat → Int) (hA : FRow w ao n xs) (hZ : IRow .i64 w zo m z) (hm : n ≤ 1048576) (hm2 : m ≤ 1048576) :
    Calls Try.prog 44 #[hillV W H ao n c, .slice zo m d] w (BRet (.bool (waysB W H n xs m z)) w) := by
  have hA' := Lib.hid (hA.alloc (.cells #[.int .i64 W, .int .i64 H, .slice ao n c] 27))
  have hX := Lib.hid (hbox_new w W H (.slice ao n c) 27)
  have hW := Lib.hid ((Bel.refl w).alloc (.cells #[.int .i64 W, .int .i64 H, .slice ao n c] 27))
  have hZ' := Lib.hid (hZ.bel hW.out)
  clear hA hZ
  go_enter Try.func44, Try.ntmps44
  go_wp2_with fail
  refine (l02Ways_any _ _ W H ao zo n c m d xs z hX.out hA'.out hZ'.out hm hm2).mono ?_
  rintro e w1 ⟨rfl, hB⟩
  replace hB := Lib.hid hB
  go_wp2_with fail
  go_ret
  exact ⟨rfl, hW.out.trans hB.out⟩
end Go.Proofs.Ytobghfjkkkfecaa
