/-
  CONTRACTS: hills measured; rows asked for finiteness; hills asked for validity; hills compared.
-/
import Derived.Test.YtobghfjkkkfecaaH1
set_option linter.unusedSimpArgs false
set_option linter.unusedVariables false
namespace Go.Proofs.Ytobghfjkkkfecaa
open Go.RowKit Go.Fl

set_option maxHeartbeats 1000000 in
theorem szHill_any (w : World) (W H : Int) (ao : Option Addr) (n c left : Nat) (hn : n ≤ left) (hl : left ≤ 1048576) :
    Calls Try.prog 15 #[hillV W H ao n c, .int .i64 (left : Int)] w (BRet (.int .i64 ((left - n : Nat) : Int)) w) := by
  have e : ((left - n : Nat) : Int) = (left : Int) - n := by omega
  rw [e]
  clear e
  go_enter Try.func15, Try.ntmps15
  go_wp2
  go_ret
  exact ⟨rfl, (Bel.refl _).alloc _⟩
theorem szHill_no (w : World) (W H : Int) (ao : Option Addr) (n c left : Nat) (hn : left < n) (hm : n ≤ maxLen) (hl : left ≤ 1048576) :
    Calls Try.prog 15 #[hillV W H ao n c, .int .i64 (left : Int)] w (BRet (.int .i64 (-1)) w) := by
  unfold maxLen at hm
  go_enter Try.func15, Try.ntmps15
  go_wp2
  go_ret
  exact ⟨rfl, (Bel.refl _).alloc _⟩
set_option maxHeartbeats 1000000 in
theorem markHill_any (w : World) (lo hi : Nat) (W H : Int) (ao : Option Addr) (n c k : Nat) (xs : List Nat) (hO : ORow lo hi w ao n xs) (hn : n ≤ 1048576) (hk : k ≤ 4194304) :
    Calls Try.prog 24 #[hillV W H ao n c, .int .i64 (k : Int)] w (fun e w' => e = .returned (.int .i64 ((k + n : Nat) : Int)) ∧ ∃ w1, Bel w w1 ∧ ORow lo hi w' ao n (marks k n) ∧ Only ao w1 w') := by
  have hO' := Lib.hid hO
  clear hO
  go_enter Try.func24, Try.ntmps24
  go_wp2_with fail
  refine (markF32 _ lo hi _ _ _ k xs (hO'.out.alloc _) hn hk).mono ?_
  rintro e w' ⟨rfl, h1, h2⟩
  have h1' := Lib.hid h1
  have h2' := Lib.hid h2
  clear h1 h2
  go_wp2_with fail
  go_ret
  exact ⟨rfl, _, (Bel.refl _).alloc _, h1'.out, h2'.out⟩
set_option maxHeartbeats 1000000 in
theorem heldHill_any (w : World) (W H : Int) (ao : Option Addr) (n c k : Nat) (hO : FRow w ao n (marks k n)) (hn : n ≤ 1048576) (hk : k ≤ 4194304) :
    Calls Try.prog 25 #[hillV W H ao n c, .int .i64 (k : Int)] w (BRet (.int .i64 ((k + n : Nat) : Int)) w) := by
  have hO' := Lib.hid hO
  clear hO
  go_enter Try.func25, Try.ntmps25
  go_wp2_with fail
  refine (heldF32 _ _ _ _ k (hO'.out.alloc _) hn hk).mono ?_
  rintro e w' ⟨rfl, nd, rfl⟩
  go_wp2_with fail
  go_ret
  exact ⟨rfl, ((Bel.refl _).alloc _).drewN _⟩

/-! ### finite rows -/
set_option maxHeartbeats 1000000 in
theorem l02Finite_any (w : World) (ao : Option Addr) (n c : Nat) (xs : List Nat) (hA : FRow w ao n xs) (hm : n ≤ 1048576) :
    Calls Try.prog 92 #[.slice ao n c] w (VRet (.bool (finB xs n)) w) := by
  have hA' := Lib.hid hA
  clear hA
  go_enter Try.func92, Try.ntmps92
  go_wp2
  go_loopw [3] (fun i wr => ∃ k : Nat, k ≤ n ∧ i = .int .i64 k ∧ Hid (finB xs k = true) ∧ ∃ nd, wr = w.drewN nd) (fun i _ => n - (intOf i).toNat)
  case atStart => exact ⟨0, Nat.zero_le _, rfl, Lib.hid rfl, 0, rfl⟩
  case round =>
    obtain ⟨k, hk, rfl, hs, nd, rfl⟩ := hrel
    by_cases hlt : k < n
    · obtain ⟨b, off, rfl, hbb, hcell⟩ := hA'.out.at0 (by omega)
      have h1 := hcell k hlt
      clear hcell
      have hx := hA'.out.is hlt
      cases hq : fin32B (cn .f32 (xs.getD k 0)) with
      | true =>
        have hq' := Lib.hid hq
        go_wp2_with (go_at_call 57; refine (l01Finite_any _ _ hx _).mono ?_; rintro e w' ⟨rfl, nd, rfl⟩; simp only [hq])
        refine ⟨⟨k + 1, by omega, by simp, Lib.hid (allB_succ hs.out hq'.out), _, rfl⟩, ?_⟩
        show n - (((k : Nat) : Int) + 1).toNat < n - ((k : Nat) : Int).toNat
        omega
      | false =>
        have hq' := Lib.hid hq
        go_wp2_with (go_at_call 57; refine (l01Finite_any _ _ hx _).mono ?_; rintro e w' ⟨rfl, nd, rfl⟩; simp only [hq])
        go_ret
        exact ⟨ret_bool (allB_no hlt hq'.out).symm, _, rfl⟩
    · go_wp2
      obtain rfl : k = n := by omega
      all_goals go_ret
      exact ⟨ret_bool hs.out.symm, nd, rfl⟩
theorem notFinite_any (x X : Nat) (hx : Is .f32 x X) (w : World) : Calls Try.prog 95 #[.float .f32 x] w (VRet (.bool (!fin32B X)) w) := by
  go_enter Try.func95, Try.ntmps95
  go_wp2_with (go_at_call 67; refine (iIsFinite_any _ _ hx _).mono ?_; rintro e w' ⟨rfl, nd, rfl⟩)
  go_ret
  exact ⟨rfl, (by repeat (first | exact Dr.refl _ | apply Dr.drewN))⟩
set_option maxHeartbeats 1000000 in
theorem idxFin_any (w : World) (ao : Option Addr) (n c : Nat) (xs : List Nat) (hA : FRow w ao n xs) (hm : n ≤ 1048576) :
    Calls Try.prog 109 #[.slice ao n c, .func (.func 95) #[] #[]] w (fun e w' => ∃ j : Int, e = .returned (.int .i64 j) ∧ decide (0 ≤ j) = !finB xs n ∧ -1 ≤ j ∧ j ≤ 1048576 ∧ Dr w w') := by
  have hA' := Lib.hid hA
  clear hA
  go_enter Try.func109, Try.ntmps109
  go_wp2
  go_loopw [8] (fun i wr => ∃ k : Nat, k ≤ n ∧ i = .int .i64 k ∧ Hid (finB xs k = true) ∧ ∃ nd, wr = w.drewN nd) (fun i _ => n - (intOf i).toNat)
  case atStart => exact ⟨0, Nat.zero_le _, rfl, Lib.hid rfl, 0, rfl⟩
  case round =>
    obtain ⟨k, hk, rfl, hs, nd, rfl⟩ := hrel
    by_cases hlt : k < n
    · obtain ⟨b, off, rfl, hbb, hcell⟩ := hA'.out.at0 (by omega)
      have h1 := hcell k hlt
      clear hcell
      have hx := hA'.out.is hlt
      cases hq : fin32B (cn .f32 (xs.getD k 0)) with
      | true =>
        have hq' := Lib.hid hq
        go_wp2_with (go_at_call 95; refine (notFinite_any _ _ hx _).mono ?_; rintro e w' ⟨rfl, nd, rfl⟩; simp only [hq])
        refine ⟨⟨k + 1, by omega, by simp, Lib.hid (allB_succ hs.out hq'.out), _, rfl⟩, ?_⟩
        show n - (((k : Nat) : Int) + 1).toNat < n - ((k : Nat) : Int).toNat
        omega
      | false =>
        have hq' := Lib.hid (show finB xs n = false from allB_no hlt hq)
        go_wp2_with (go_at_call 95; refine (notFinite_any _ _ hx _).mono ?_; rintro e w' ⟨rfl, nd, rfl⟩; simp only [hq])
        go_ret
        exact ⟨_, rfl, by rw [hq'.out]; simp, by omega, by omega, (by repeat (first | exact Dr.refl _ | apply Dr.drewN))⟩
    · go_wp2
      obtain rfl : k = n := by omega
      all_goals go_ret
      exact ⟨_, rfl, by rw [hs.out]; simp, by omega, by omega, nd, rfl⟩
theorem contFin_any (w : World) (ao : Option Addr) (n c : Nat) (xs : List Nat) (hA : FRow w ao n xs) (hm : n ≤ 1048576) :
    Calls Try.prog 94 #[.slice ao n c, .func (.func 95) #[] #[]] w (VRet (.bool (!finB xs n)) w) := by
  go_enter Try.func94, Try.ntmps94
  go_wp2_with fail
  refine (idxFin_any _ _ _ _ xs hA hm).mono ?_
  rintro e w' ⟨j, rfl, hj, hj1, hj2, nd, rfl⟩
  have hj' := Lib.hid hj
  clear hj
  go_wp2_with fail
  go_ret
  exact ⟨ret_bool hj'.out, (by repeat (first | exact Dr.refl _ | apply Dr.drewN))⟩
theorem areFinite_any (w : World) (ao : Option Addr) (n c : Nat) (xs : List Nat) (hA : FRow w ao n xs) (hm : n ≤ 1048576) :
    Calls Try.prog 55 #[.slice ao n c] w (VRet (.bool (finB xs n)) w) := by
  go_enter Try.func55, Try.ntmps55
  go_wp2_with (go_at_call 94; refine (contFin_any _ _ _ _ xs hA hm).mono ?_; rintro e w' ⟨rfl, nd, rfl⟩)
  go_ret
  exact ⟨ret_bool (by simp), (by repeat (first | exact Dr.refl _ | apply Dr.drewN))⟩
end Go.Proofs.Ytobghfjkkkfecaa
