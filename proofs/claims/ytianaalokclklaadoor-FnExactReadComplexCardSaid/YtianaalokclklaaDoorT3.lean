/-
  CONTRACTS: lists of integers: which are valid; their text.
-/
import Derived.Test.YtianaalokclklaaDoorT2
import Derived.Test.YtianaalokclklaaDoorIS
import Derived.Lib.Join
import Derived.Laws.Concat
set_option linter.unusedSimpArgs false
set_option linter.unusedVariables false
namespace Go.Proofs.YtianaalokclklaaDoor
open Go.RowKit Go.Fl

def inB (x lo hi : Int) : Bool := decide (lo ≤ x) && decide (x ≤ hi)
theorem inB_iff {x lo hi : Int} : inB x lo hi = true ↔ lo ≤ x ∧ x ≤ hi := by unfold inB; simp
/-- a call that leaves the world as it was -/
def ERet (v : Value) (w : World) (e : Ending) (w' : World) : Prop := e = .returned v ∧ w = w'
theorem l00In_any (x lo hi : Int) (w : World) : Calls Tryd.prog 56 #[.int .i64 x, .int .i64 lo, .int .i64 hi] w (ERet (.bool (inB x lo hi)) w) := by
  by_cases h : lo ≤ x
  · have he := Lib.hid (show decide (x ≤ hi) = inB x lo hi by unfold inB; rw [decide_eq_true h]; rfl)
    go_enter Tryd.func56, Tryd.ntmps56
    go_wp2
    go_ret
    exact ⟨ret_bool he.out, rfl⟩
  · have he := Lib.hid (show false = inB x lo hi by unfold inB; rw [decide_eq_false h]; rfl)
    go_enter Tryd.func56, Tryd.ntmps56
    go_wp2
    go_ret
    exact ⟨ret_bool he.out, rfl⟩
theorem within_any (x lo hi : Int) (w : World) : Calls Tryd.prog 47 #[.int .i64 x, .int .i64 lo, .int .i64 hi] w (ERet (.bool (inB x lo hi)) w) := by
  by_cases h : lo ≤ x
  · have he := Lib.hid (show decide (x ≤ hi) = inB x lo hi by unfold inB; rw [decide_eq_true h]; rfl)
    go_enter Tryd.func47, Tryd.ntmps47
    go_wp2
    go_ret
    exact ⟨ret_bool he.out, rfl⟩
  · have he := Lib.hid (show false = inB x lo hi by unfold inB; rw [decide_eq_false h]; rfl)
    go_enter Tryd.func47, Tryd.ntmps47
    go_wp2
    go_ret
    exact ⟨ret_bool he.out, rfl⟩
/-- each number in the bounds -/
def inAll (z : Nat → Int) (n : Nat) : Bool := allB (fun i => inB (z i) (-1000000000000000) 1000000000000000) n
def listB (z : Nat → Int) (n : Nat) : Bool := inAll z n && decide (n ≤ 64)
theorem le64_int (n : Nat) : decide ((n : Int) ≤ 64) = decide (n ≤ 64) := by rw [decide_eq_decide]; omega
set_option maxHeartbeats 1000000 in
theorem l01List_any (w : World) (ao : Option Addr) (n c : Nat) (z : Nat → Int) (hA : IRow .i64 w ao n z) (hm : n ≤ 1048576) :
    Calls Tryd.prog 37 #[.slice ao n c] w (ERet (.bool (listB z n)) w) := by
  have hA' := Lib.hid hA
  clear hA
  go_enter Tryd.func37, Tryd.ntmps37
  go_wp2
  go_loopw [3] (fun i wr => ∃ k : Nat, k ≤ n ∧ i = .int .i64 k ∧ Hid (inAll z k = true) ∧ w = wr) (fun i _ => n - (intOf i).toNat)
  case atStart => exact ⟨0, Nat.zero_le _, rfl, Lib.hid rfl, rfl⟩
  case round =>
    obtain ⟨k, hk, rfl, hs, rfl⟩ := hrel
    by_cases hlt : k < n
    · obtain ⟨b, off, rfl, hb, hcell⟩ := hA'.out.at0 (by omega)
      have h1 := hcell k hlt
      clear hcell
      cases hq : inB (z k) (-1000000000000000) 1000000000000000 with
      | true =>
        have hq' := Lib.hid hq
        obtain ⟨Z, hZ⟩ : ∃ Z, Z = z k := ⟨_, rfl⟩
        rw [← hZ] at h1 hq
        replace hZ := Lib.hid hZ
        replace hq := Lib.hid hq
        go_wp2_with fail
        refine (l00In_any _ _ _ _).mono ?_
        rintro e w' ⟨rfl, rfl⟩
        rw [hq.out]
        go_wp2_with fail
        refine ⟨⟨k + 1, by omega, by simp, Lib.hid (allB_succ hs.out hq'.out), trivial⟩, ?_⟩
        show n - (((k : Nat) : Int) + 1).toNat < n - ((k : Nat) : Int).toNat
        omega
      | false =>
        have hq' := Lib.hid (show listB z n = false by unfold listB inAll; rw [allB_no hlt hq]; rfl)
        obtain ⟨Z, hZ⟩ : ∃ Z, Z = z k := ⟨_, rfl⟩
        rw [← hZ] at h1 hq
        replace hZ := Lib.hid hZ
        replace hq := Lib.hid hq
        go_wp2_with fail
        refine (l00In_any _ _ _ _).mono ?_
        rintro e w' ⟨rfl, rfl⟩
        rw [hq.out]
        go_wp2_with fail
        go_ret
        exact ⟨ret_bool hq'.out.symm, rfl⟩
    · obtain rfl : k = n := by omega
      have hR := Lib.hid (show decide ((k : Int) ≤ 64) = listB z k by unfold listB; rw [hs.out, Bool.true_and, le64_int])
      go_wp2
      all_goals go_ret
      exact ⟨ret_bool hR.out, rfl⟩
theorem isOut_any (x : Int) (w : World) : Calls Tryd.prog 58 #[.int .i64 x] w (ERet (.bool (!inB x (-1000000000000000) 1000000000000000)) w) := by
  go_enter Tryd.func58, Tryd.ntmps58
  go_wp2_with fail
  refine (within_any _ _ _ _).mono ?_
  rintro e w' ⟨rfl, rfl⟩
  go_wp2_with fail
  go_ret
  exact ⟨rfl, rfl⟩
set_option maxHeartbeats 1000000 in
theorem idxOut_any (w : World) (ao : Option Addr) (n c : Nat) (z : Nat → Int) (hA : IRow .i64 w ao n z) (hm : n ≤ 1048576) :
    Calls Tryd.prog 76 #[.slice ao n c, .func (.func 58) #[] #[]] w (fun e w' => ∃ j : Int, e = .returned (.int .i64 j) ∧ decide (0 ≤ j) = !inAll z n ∧ -1 ≤ j ∧ j ≤ 1048576 ∧ w = w') := by
  have hA' := Lib.hid hA
  clear hA
  go_enter Tryd.func76, Tryd.ntmps76
  go_wp2
  go_loopw [8] (fun i wr => ∃ k : Nat, k ≤ n ∧ i = .int .i64 k ∧ Hid (inAll z k = true) ∧ w = wr) (fun i _ => n - (intOf i).toNat)
  case atStart => exact ⟨0, Nat.zero_le _, rfl, Lib.hid rfl, rfl⟩
  case round =>
    obtain ⟨k, hk, rfl, hs, rfl⟩ := hrel
    by_cases hlt : k < n
    · obtain ⟨b, off, rfl, hb, hcell⟩ := hA'.out.at0 (by omega)
      have h1 := hcell k hlt
      clear hcell
      cases hq : inB (z k) (-1000000000000000) 1000000000000000 with
      | true =>
        have hq' := Lib.hid hq
        obtain ⟨Z, hZ⟩ : ∃ Z, Z = z k := ⟨_, rfl⟩
        rw [← hZ] at h1 hq
        replace hZ := Lib.hid hZ
        replace hq := Lib.hid hq
        go_wp2_with fail
        refine (isOut_any _ _).mono ?_
        rintro e w' ⟨rfl, rfl⟩
        rw [hq.out]
        go_wp2_with fail
        refine ⟨⟨k + 1, by omega, by simp, Lib.hid (allB_succ hs.out hq'.out), trivial⟩, ?_⟩
        show n - (((k : Nat) : Int) + 1).toNat < n - ((k : Nat) : Int).toNat
        omega
      | false =>
        have hq' := Lib.hid (show inAll z n = false by unfold inAll; rw [allB_no hlt hq])
        obtain ⟨Z, hZ⟩ : ∃ Z, Z = z k := ⟨_, rfl⟩
        rw [← hZ] at h1 hq
        replace hZ := Lib.hid hZ
        replace hq := Lib.hid hq
        go_wp2_with fail
        refine (isOut_any _ _).mono ?_
        rintro e w' ⟨rfl, rfl⟩
        rw [hq.out]
        go_wp2_with fail
        go_ret
        exact ⟨_, rfl, by rw [hq'.out]; simp, by omega, by omega, rfl⟩
    · go_wp2
      obtain rfl : k = n := by omega
      all_goals go_ret
      exact ⟨_, rfl, by rw [hs.out]; simp, by omega, by omega, rfl⟩
theorem contOut_any (w : World) (ao : Option Addr) (n c : Nat) (z : Nat → Int) (hA : IRow .i64 w ao n z) (hm : n ≤ 1048576) :
    Calls Tryd.prog 57 #[.slice ao n c, .func (.func 58) #[] #[]] w (ERet (.bool (!inAll z n)) w) := by
  go_enter Tryd.func57, Tryd.ntmps57
  go_wp2_with fail
  refine (idxOut_any _ _ _ _ z hA hm).mono ?_
  rintro e w' ⟨j, rfl, hj, hj1, hj2, rfl⟩
  have hj' := Lib.hid hj
  clear hj
  go_wp2_with fail
  go_ret
  exact ⟨ret_bool hj'.out, rfl⟩
theorem isList_any (w : World) (ao : Option Addr) (n c : Nat) (z : Nat → Int) (hA : IRow .i64 w ao n z) (hm : n ≤ 1048576) :
    Calls Tryd.prog 39 #[.slice ao n c] w (ERet (.bool (listB z n)) w) := by
  have hA' := Lib.hid hA
  clear hA
  by_cases h64 : n ≤ 64
  · have hR := Lib.hid (show inAll z n = listB z n by unfold listB; rw [decide_eq_true h64, Bool.and_true])
    go_enter Tryd.func39, Tryd.ntmps39
    go_wp2_with fail
    refine (contOut_any _ _ _ _ z hA'.out hm).mono ?_
    rintro e w' ⟨rfl, rfl⟩
    rw [hR.out]
    go_wp2_with fail
    go_ret
    exact ⟨ret_bool (by simp), rfl⟩
  · have hR := Lib.hid (show listB z n = false by unfold listB; rw [decide_eq_false h64, Bool.and_false])
    go_enter Tryd.func39, Tryd.ntmps39
    go_wp2_with fail
    go_ret
    exact ⟨ret_bool hR.out.symm, rfl⟩
end Go.Proofs.YtianaalokclklaaDoor
