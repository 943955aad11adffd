/-
  CONTRACTS: hills: handed on, compared, marked; rows of numbers compared and asked for finiteness.
-/
import Derived.Test.YtianaalokclklaaDoorN5
import Derived.Test.YtianaalokclklaaDoorRs
set_option linter.unusedSimpArgs false
set_option linter.unusedVariables false
namespace Go.Proofs.YtianaalokclklaaDoor
open Go.RowKit Go.Fl

/-- a new row -/
def ORet (n : Nat) (xs : List Nat) (w : World) (e : Ending) (w' : World) : Prop := ∃ ao, e = .returned (.slice ao n n) ∧ ORow w.heap.size w'.heap.size w' ao n xs ∧ Bel w w'

theorem ffill_own {w wr : World} {n : Nat} {xs : List Nat} (h : FFill w wr n n xs) (hl : xs.length = n) (hw : ∀ i, i < n → xs.getD i 0 < 4294967296) : ORow w.heap.size wr.heap.size wr (some ⟨w.heap.size, 0, none⟩) n xs :=
  ⟨h.done hl hw, fun a ha => by cases ha; exact ⟨Nat.le_refl _, h.lt, h.lt, h.thaw⟩⟩

set_option maxHeartbeats 1000000 in
theorem toF32o (w : World) (ao : Option Addr) (n c : Nat) (xs : List Nat) (hA : FRow w ao n xs) (hm : n ≤ 1048576) :
    Calls Tryd.prog 17 #[.slice ao n c] w (ORet n xs w) := by
  have hmk := run_make_row' (P := Tryd.prog) 30 54 (.float .f32 0) 4 Tryd.underlying30 infoF32 rfl .i64 .i64 n (by omega) (by omega)
  have hA' := Lib.hid hA
  clear hA
  go_enter Tryd.func17, Tryd.ntmps17
  go_wp2
  go_loopw [4] (fun i wr => ∃ k : Nat, k ≤ n ∧ i = .int .i64 k ∧ FFill w wr n k xs) (fun i _ => n - (intOf i).toNat)
  case atStart => exact ⟨0, Nat.zero_le _, rfl, FFill.start w n xs _⟩
  case round =>
    obtain ⟨k, hk, rfl, hF⟩ := hrel
    have hF' := Lib.hid hF
    clear hF
    by_cases hlt : k < n
    · obtain ⟨b, off, rfl, hb, hcell⟩ := hA'.out.at0 (by omega)
      have h1 : wr.cell? ⟨b, off + k, none⟩ = some (.float .f32 (xs.getD k 0)) := by
        rw [hF'.out.below.cell (p := ⟨b, off + k, none⟩) hb]; exact hcell k hlt
      clear hcell
      have h2 := hF'.out.cells k hlt
      have h3 := run_store_float (P := Tryd.prog) h2 (hF'.out.thaw k)
      clear h2
      go_wp2
      refine ⟨⟨k + 1, by omega, by simp, hF'.out.next hlt⟩, ?_⟩
      show n - (((k : Nat) : Int) + 1).toNat < n - ((k : Nat) : Int).toNat
      omega
    · go_wp2
      obtain rfl : k = n := by omega
      all_goals go_ret
      exact ⟨_, rfl, ffill_own hF'.out hA'.out.len hA'.out.wf, hF'.out.below⟩

theorem mk_add (k j : Nat) : ((k + j : Nat) : Int) + 1 = ((k + (j + 1) : Nat) : Int) := by omega
theorem val_i64 {a b : Int} (h : a = b) : Value.int .i64 a = .int .i64 b := by rw [h]
set_option maxHeartbeats 1000000 in
theorem markF32 (w : World) (lo hi : Nat) (ao : Option Addr) (n c k : Nat) (xs : List Nat) (hO : ORow lo hi w ao n xs) (hn : n ≤ 1048576) (hk : k ≤ 4194304) :
    Calls Tryd.prog 28 #[.slice ao n c, .int .i64 (k : Int)] w (MkRet lo hi ao n k w) := by
  by_cases h0 : 0 < n
  · obtain ⟨b, off, rfl, hb, _⟩ := hO.row.at0 h0
    have hS := Lib.hid (MFill.start (k := k) hO h0)
    have hO' := Lib.hid hO
    clear hO
    go_enter Tryd.func28, Tryd.ntmps28
    go_wp2
    go_loopw [1, 5] (fun q i wr => ∃ j : Nat, j ≤ n ∧ i = .int .i64 j ∧ q = .int .i64 ((k + j : Nat) : Int) ∧ MFill lo hi b off w wr n k j xs) (fun _ i _ => n - (intOf i).toNat)
    case atStart => exact ⟨0, Nat.zero_le _, rfl, rfl, hS.out⟩
    case round =>
      obtain ⟨j, hj, rfl, rfl, hF⟩ := hrel
      have hF' := Lib.hid hF
      clear hF
      by_cases hlt : j < n
      · have h2 := hF'.out.cells j hlt
        have h3 := run_store_float (P := Tryd.prog) h2 (hF'.out.thaw _)
        clear h2
        go_wp2
        refine ⟨⟨j + 1, by omega, by simp, val_i64 (mk_add k j), hF'.out.next hlt⟩, ?_⟩
        show n - (((j : Nat) : Int) + 1).toNat < n - ((j : Nat) : Int).toNat
        omega
      · go_wp2
        obtain rfl : j = n := by omega
        all_goals go_ret
        exact ⟨rfl, hF'.out.done hO'.out, hF'.out.only⟩
  · obtain rfl : n = 0 := by omega
    have hO' := Lib.hid hO
    clear hO h0
    go_enter Tryd.func28, Tryd.ntmps28
    go_wp2
    refine wp_loop_rounds 1 ?_
    rw [rounds_succ]
    go_wp2
    go_ret
    exact ⟨rfl, ⟨⟨rfl, fun h => absurd h (by omega), fun i h => absurd h (by omega)⟩, hO'.out.own⟩, Only.refl _ _⟩
set_option maxHeartbeats 1000000 in
theorem heldF32 (w : World) (ao : Option Addr) (n c k : Nat) (hO : FRow w ao n (marks k n)) (hn : n ≤ 1048576) (hk : k ≤ 4194304) :
    Calls Tryd.prog 29 #[.slice ao n c, .int .i64 (k : Int)] w (VRet (.int .i64 ((k + n : Nat) : Int)) w) := by
  have hO' := Lib.hid hO
  clear hO
  go_enter Tryd.func29, Tryd.ntmps29
  go_wp2
  go_loopw [1, 5] (fun q i wr => ∃ j : Nat, j ≤ n ∧ i = .int .i64 j ∧ q = .int .i64 ((k + j : Nat) : Int) ∧ ∃ nd, wr = w.drewN nd) (fun _ i _ => n - (intOf i).toNat)
  case atStart => exact ⟨0, Nat.zero_le _, rfl, rfl, 0, rfl⟩
  case round =>
    obtain ⟨j, hj, rfl, rfl, nd, rfl⟩ := hrel
    by_cases hlt : j < n
    · obtain ⟨b, off, rfl, _, hcell⟩ := hO'.out.at0 (by omega)
      have h1 := hcell j hlt
      rw [marks_at hlt] at h1
      clear hcell
      have hi := Is.ofInt .f32 ((k + j : Nat) : Int)
      have e := fne_num (fi32_not ((k + j : Nat) : Int))
      go_wp2_with (((with_reducible refine wpList_here ?_); (first | ((with_reducible refine wpList_feq (k := ?_) (bx := ?_) (by' := ?_) (X := ?_) (Y := ?_) ?_ ?_ ?_ ?_ ?_ ?_); rotate_left 5; (first | (with_reducible exact wanted_none) | ((with_reducible refine wanted_some ?_); rfl)); (rfl); (rfl); (first | assumption | ((refine Is.lit ?_); decide +kernel) | (refine Is.ofInt _ _)); (first | assumption | ((refine Is.lit ?_); decide +kernel) | (refine Is.ofInt _ _)); (try simp only [Act.put, List.setIfInBounds_toArray, List.set_cons_succ, List.set_cons_zero, World.drewN_drewN])) | ((with_reducible refine wpList_fne (k := ?_) (bx := ?_) (by' := ?_) (X := ?_) (Y := ?_) ?_ ?_ ?_ ?_ ?_ ?_); rotate_left 5; (first | (with_reducible exact wanted_none) | ((with_reducible refine wanted_some ?_); rfl)); (rfl); (rfl); (first | assumption | ((refine Is.lit ?_); decide +kernel) | (refine Is.ofInt _ _)); (first | assumption | ((refine Is.lit ?_); decide +kernel) | (refine Is.ofInt _ _)); (try simp only [Act.put, List.setIfInBounds_toArray, List.set_cons_succ, List.set_cons_zero, World.drewN_drewN])) | ((with_reducible refine wpList_flt (k := ?_) (bx := ?_) (by' := ?_) (X := ?_) (Y := ?_) ?_ ?_ ?_ ?_ ?_ ?_); rotate_left 5; (first | (with_reducible exact wanted_none) | ((with_reducible refine wanted_some ?_); rfl)); (rfl); (rfl); (first | assumption | ((refine Is.lit ?_); decide +kernel) | (refine Is.ofInt _ _)); (first | assumption | ((refine Is.lit ?_); decide +kernel) | (refine Is.ofInt _ _)); (try simp only [Act.put, List.setIfInBounds_toArray, List.set_cons_succ, List.set_cons_zero, World.drewN_drewN])) | ((with_reducible refine wpList_fle (k := ?_) (bx := ?_) (by' := ?_) (X := ?_) (Y := ?_) ?_ ?_ ?_ ?_ ?_ ?_); rotate_left 5; (first | (with_reducible exact wanted_none) | ((with_reducible refine wanted_some ?_); rfl)); (rfl); (rfl); (first | assumption | ((refine Is.lit ?_); decide +kernel) | (refine Is.ofInt _ _)); (first | assumption | ((refine Is.lit ?_); decide +kernel) | (refine Is.ofInt _ _)); (try simp only [Act.put, List.setIfInBounds_toArray, List.set_cons_succ, List.set_cons_zero, World.drewN_drewN])) | ((with_reducible refine wpList_fgt (k := ?_) (bx := ?_) (by' := ?_) (X := ?_) (Y := ?_) ?_ ?_ ?_ ?_ ?_ ?_); rotate_left 5; (first | (with_reducible exact wanted_none) | ((with_reducible refine wanted_some ?_); rfl)); (rfl); (rfl); (first | assumption | ((refine Is.lit ?_); decide +kernel) | (refine Is.ofInt _ _)); (first | assumption | ((refine Is.lit ?_); decide +kernel) | (refine Is.ofInt _ _)); (try simp only [Act.put, List.setIfInBounds_toArray, List.set_cons_succ, List.set_cons_zero, World.drewN_drewN])) | ((with_reducible refine wpList_fge (k := ?_) (bx := ?_) (by' := ?_) (X := ?_) (Y := ?_) ?_ ?_ ?_ ?_ ?_ ?_); rotate_left 5; (first | (with_reducible exact wanted_none) | ((with_reducible refine wanted_some ?_); rfl)); (rfl); (rfl); (first | assumption | ((refine Is.lit ?_); decide +kernel) | (refine Is.ofInt _ _)); (first | assumption | ((refine Is.lit ?_); decide +kernel) | (refine Is.ofInt _ _)); (try simp only [Act.put, List.setIfInBounds_toArray, List.set_cons_succ, List.set_cons_zero, World.drewN_drewN])))); try simp only [e])
      refine ⟨⟨j + 1, by omega, by simp, val_i64 (mk_add k j), _, rfl⟩, ?_⟩
      show n - (((j : Nat) : Int) + 1).toNat < n - ((j : Nat) : Int).toNat
      omega
    · go_wp2
      obtain rfl : j = n := by omega
      all_goals go_ret
      exact ⟨rfl, nd, rfl⟩

/-! ### rows compared -/
section
variable {P : Program} {f : FuncId} {args : Array Value} {w : World} {v : Value}
theorem cg_same (h : Calls P f args w (fun e w' => e = .returned v ∧ w = w')) : Rk.CallGives P Bel f args w (Rk.Is1 v) :=
  h.mono fun e w' ⟨he, hw⟩ => by subst he; subst hw; exact ⟨_, rfl, Bel.refl _, rfl⟩
theorem cg_vret (h : Calls P f args w (VRet v w)) : Rk.CallGives P Bel f args w (Rk.Is1 v) :=
  h.mono fun e w' ⟨he, hw⟩ => ⟨_, he, (Bel.refl _).dr hw, rfl⟩
theorem cg_bret (h : Calls P f args w (BRet v w)) : Rk.CallGives P Bel f args w (Rk.Is1 v) :=
  h.mono fun e w' ⟨he, hw⟩ => ⟨_, he, hw, rfl⟩
theorem cg_fret {k : FloatKind} {X : Nat} (h : Calls P f args w (FRet k X w)) : Rk.CallGives P Bel f args w (Rk.IsF k X) :=
  h.mono fun e w' ⟨r, he, hr, hw⟩ => ⟨_, he, (Bel.refl _).dr hw, r, rfl, hr⟩
theorem bret_of_vret (h : Calls P f args w (VRet v w)) : Calls P f args w (BRet v w) := h.mono fun e w' ⟨he, hw⟩ => ⟨he, (Bel.refl _).dr hw⟩
end
theorem sameB_of_len {xs ys : List Nat} {n k : Nat} (h : allB (fun i => cn .f32 (xs.getD i 0) == cn .f32 (ys.getD i 0)) k = true) (g : (cn .f32 (xs.getD k 0) == cn .f32 (ys.getD k 0)) = true) :
    allB (fun i => cn .f32 (xs.getD i 0) == cn .f32 (ys.getD i 0)) (k + 1) = true := allB_succ h g

end Go.Proofs.YtianaalokclklaaDoor
