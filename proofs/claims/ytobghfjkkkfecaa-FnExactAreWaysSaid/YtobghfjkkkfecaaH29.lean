/-
  CONTRACTS: ways of a hill, the program's.
-/
import Derived.Test.YtobghfjkkkfecaaH28
set_option linter.unusedSimpArgs false
set_option linter.unusedVariables false
namespace Go.Proofs.Ytobghfjkkkfecaa
open Go.RowKit Go.Fl

def anyTo (L : List (Nat × Nat)) (z : Int) : Bool := L.any fun p => (p.1 : Int) == z
theorem anyTo_take {L : List (Nat × Nat)} {k : Nat} {p : Nat × Nat} (h : L[k]? = some p) (z : Int) : anyTo (L.take (k + 1)) z = (anyTo (L.take k) z || ((p.1 : Int) == z)) := by
  unfold anyTo
  rw [List.take_add_one, h, List.any_append]; simp
theorem anyTo_yes {L : List (Nat × Nat)} {k : Nat} {p : Nat × Nat} {z : Int} (h : L[k]? = some p) (hz : ((p.1 : Int) == z) = true) : anyTo L z = true := by
  unfold anyTo
  rw [List.any_eq_true]
  exact ⟨p, List.mem_of_getElem? h, hz⟩
theorem any_bes (a b i : Nat) (z : Int) (k : Nat) : anyTo (nbs a b i k) z = bes a b i z k := by
  induction k with
  | zero => rfl
  | succ k ih =>
    unfold nbs
    rw [bes]
    by_cases h : nearI a b i k < 0
    · rw [if_pos h, ih, decide_eq_false (by omega), Bool.false_and, Bool.or_false]
    · rw [if_neg h, decide_eq_true (by omega), Bool.true_and, ← ih]
      unfold anyTo
      rw [List.any_append]
      have e : (((nearI a b i k).toNat : Int)) = nearI a b i k := by omega
      simp [e]
theorem isTo_any (m f : Nat) (z : Int) (w : World) (b : Nat) (hc : w.cell? ⟨b, 0, none⟩ = some (.int .i64 z)) :
    Calls Try.prog 88 #[.agg #[.int .i64 (m : Int), .float .f32 f], .pointer (some ⟨b, 0, none⟩)] w (BRet (.bool ((m : Int) == z)) w) := by
  have hb : b < w.heap.size := lt_of_cell hc
  go_enter Try.func88, Try.ntmps88
  go_wp2
  go_ret
  exact ⟨rfl, (Bel.refl _).alloc _⟩
set_option maxHeartbeats 1000000 in
theorem idxTo_any (w : World) (ao : Option Addr) (c : Nat) (L : List (Nat × Nat)) (z : Int) (b : Nat) (hN : NRow w ao L) (hc : w.cell? ⟨b, 0, none⟩ = some (.int .i64 z)) (hl : L.length ≤ 8) :
    Calls Try.prog 106 #[.slice ao L.length c, .func (.func 88) #[] #[.pointer (some ⟨b, 0, none⟩)]] w (fun e w' => ∃ j : Int, e = .returned (.int .i64 j) ∧ decide (0 ≤ j) = anyTo L z ∧ -1 ≤ j ∧ j ≤ 8 ∧ Bel w w') := by
  have hN' := Lib.hid hN
  have hb : b < w.heap.size := lt_of_cell hc
  have hc' := Lib.hid hc
  obtain ⟨n, hn⟩ : ∃ n, n = L.length := ⟨_, rfl⟩
  have hfull := Lib.hid (show ∀ k, n ≤ k → L.take k = L from fun k hk => List.take_of_length_le (by omega))
  have hget := Lib.hid (show ∀ k, k < n → L[k]? = some (L.getD k (0, 0)) from fun k hk => by rw [List.getD_eq_getElem?_getD, List.getElem?_eq_getElem (by omega)]; rfl)
  have hat := Lib.hid (show 0 < n → _ from fun h0 => hN.at0 (by omega))
  rw [← hn] at hl ⊢
  replace hn := Lib.hid hn
  clear hN hc
  go_enter Try.func106, Try.ntmps106
  go_wp2
  go_loopw [8] (fun i wr => ∃ k : Nat, k ≤ n ∧ i = .int .i64 k ∧ Hid (anyTo (L.take k) z = false) ∧ Hid (Bel w wr)) (fun i _ => n - (intOf i).toNat)
  case atStart => exact ⟨0, Nat.zero_le _, rfl, Lib.hid rfl, Lib.hid (Bel.refl _)⟩
  case round =>
    obtain ⟨k, hk, rfl, hs, hbw⟩ := hrel
    by_cases hlt : k < n
    · obtain ⟨g, og, rfl, hg1, hg2⟩ := hat.out (by omega)
      obtain ⟨c1, c2⟩ := hg2 k (by have := hn.out; omega)
      replace c1 := (hbw.out.cell (p := ⟨g, og + k * 2, none⟩) hg1).trans c1
      replace c2 := (hbw.out.cell (p := ⟨g, og + k * 2 + 1, none⟩) hg1).trans c2
      have hz := Lib.hid ((hbw.out.cell (p := ⟨b, 0, none⟩) hb).trans hc'.out)
      have hLk := hget.out k hlt
      obtain ⟨⟨m, f⟩, hmf⟩ : ∃ p, p = L.getD k (0, 0) := ⟨_, rfl⟩
      rw [← hmf] at c1 c2 hLk
      replace hLk := Lib.hid hLk
      have c1' : wr.cell? ⟨g, og + k * 2, none⟩ = some (.int .i64 (m : Int)) := c1
      have c2' : wr.cell? ⟨g, og + k * 2 + 1, none⟩ = some (.float .f32 f) := c2
      clear c1 c2 hg1 hg2 hmf
      cases hq : ((m : Int) == z) with
      | true =>
        have hR := Lib.hid (anyTo_yes hLk.out hq)
        replace hq := Lib.hid hq
        go_wp2_with fail
        refine (isTo_any m f z _ b hz.out).mono ?_
        rintro e w1 ⟨rfl, hB⟩
        rw [hq.out]
        replace hB := Lib.hid hB
        go_wp2_with fail
        go_ret
        exact ⟨_, rfl, by rw [hR.out]; simp, by omega, by omega, hbw.out.trans hB.out⟩
      | false =>
        have hR := Lib.hid (show anyTo (L.take (k + 1)) z = false by rw [anyTo_take hLk.out, hs.out]; exact hq)
        replace hq := Lib.hid hq
        go_wp2_with fail
        refine (isTo_any m f z _ b hz.out).mono ?_
        rintro e w1 ⟨rfl, hB⟩
        rw [hq.out]
        replace hB := Lib.hid hB
        go_wp2_with fail
        refine ⟨⟨k + 1, by omega, by simp, hR, Lib.hid (hbw.out.trans hB.out)⟩, ?_⟩
        show n - (((k : Nat) : Int) + 1).toNat < n - ((k : Nat) : Int).toNat
        omega
    · go_wp2_with fail
      have hR := hs.out
      rw [hfull.out k (by omega)] at hR
      go_ret
      exact ⟨_, rfl, by rw [hR]; simp, by omega, by omega, hbw.out⟩
theorem contTo_any (w : World) (ao : Option Addr) (c : Nat) (L : List (Nat × Nat)) (z : Int) (b : Nat) (hN : NRow w ao L) (hc : w.cell? ⟨b, 0, none⟩ = some (.int .i64 z)) (hl : L.length ≤ 8) :
    Calls Try.prog 86 #[.slice ao L.length c, .func (.func 88) #[] #[.pointer (some ⟨b, 0, none⟩)]] w (BRet (.bool (anyTo L z)) w) := by
  have hc' := Lib.hid hc
  clear hc
  go_enter Try.func86, Try.ntmps86
  go_wp2_with fail
  refine (idxTo_any w ao c L z b hN hc'.out hl).mono ?_
  rintro e w' ⟨j, rfl, hj, hj1, hj2, hB⟩
  have hj' := Lib.hid hj
  replace hB := Lib.hid hB
  clear hj
  go_wp2_with fail
  go_ret
  exact ⟨ret_bool hj'.out, hB.out⟩
end Go.Proofs.Ytobghfjkkkfecaa
