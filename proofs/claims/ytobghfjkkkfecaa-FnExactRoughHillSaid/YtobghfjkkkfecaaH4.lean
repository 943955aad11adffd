/-
  CONTRACTS: hills: valid ones, the same ones; two laws.
-/
import Derived.Test.YtobghfjkkkfecaaH3
set_option linter.unusedSimpArgs false
set_option linter.unusedVariables false
namespace Go.Proofs.Ytobghfjkkkfecaa
open Go.RowKit Go.Fl

set_option maxHeartbeats 1000000 in
theorem iValidHill_any (w : World) (W H : Int) (ao : Option Addr) (n c : Nat) (xs : List Nat) (hA : FRow w ao n xs) (hm : n ≤ 1048576) :
    Calls Try.prog 21 #[hillV W H ao n c] w (BRet (.bool (validB W H n xs)) w) := by
  have hA' := Lib.hid hA
  clear hA
  by_cases h : (1 ≤ W ∧ W ≤ 16) ∧ 1 ≤ H ∧ H ≤ 16
  · have hs := Lib.hid (sideB_iff.2 h)
    obtain ⟨⟨h1, h2⟩, h3, h4⟩ := h
    have ha := area h1 h2 h3 h4
    obtain ⟨ha1, ha2⟩ := ha
    by_cases hn : (n : Int) = W * H
    · have e1 : ((n : Int) == W * H) = true := by simp [hn]
      have he := Lib.hid (show finB xs n = validB W H n xs by unfold validB; rw [hs.out, decide_eq_true hn]; simp)
      clear hn
      go_enter Try.func21, Try.ntmps21
      go_wp2_with (first | (go_at_call 54; refine (isSide_any _ _ _).mono ?_; rintro e w' ⟨rfl, rfl⟩; rw [hs.out]) | (go_at_call 55; refine (areFinite_any _ _ _ _ xs (by exact hA'.out.alloc _) hm).mono ?_; rintro e w' ⟨rfl, nd, rfl⟩))
      go_ret
      exact ⟨ret_bool he.out, ((Bel.refl _).alloc _).drewN _⟩
    · have e1 : ((n : Int) == W * H) = false := by simp [hn]
      have he := Lib.hid (show false = validB W H n xs by unfold validB; rw [hs.out, decide_eq_false hn]; simp)
      clear hn
      go_enter Try.func21, Try.ntmps21
      go_wp2_with (first | (go_at_call 54; refine (isSide_any _ _ _).mono ?_; rintro e w' ⟨rfl, rfl⟩; rw [hs.out]))
      go_ret
      exact ⟨ret_bool he.out, ((Bel.refl _).alloc _)⟩
  · have hs := Lib.hid (sideB_no h)
    have he := Lib.hid (show false = validB W H n xs by unfold validB; rw [hs.out]; simp)
    clear h
    go_enter Try.func21, Try.ntmps21
    go_wp2_with (first | (go_at_call 54; refine (isSide_any _ _ _).mono ?_; rintro e w' ⟨rfl, rfl⟩; rw [hs.out]))
    go_ret
    exact ⟨ret_bool he.out, ((Bel.refl _).alloc _)⟩
theorem sValidHill_any (w : World) (W H : Int) (ao : Option Addr) (n c : Nat) (xs : List Nat) (hA : FRow w ao n xs) (hm : n ≤ 1048576) :
    Calls Try.prog 20 #[hillV W H ao n c] w (BRet (.bool (validB W H n xs)) w) := by
  have hA' := Lib.hid hA
  clear hA
  go_enter Try.func20, Try.ntmps20
  go_wp2_with fail
  refine (l02Is_any _ _ W H ao n c xs (hbox_new _ _ _ _ _) (hA'.out.alloc _) hm).mono ?_
  rintro e w' ⟨rfl, hB⟩
  have hB' := Lib.hid hB
  clear hB
  go_wp2_with fail
  go_ret
  exact ⟨rfl, ((Bel.refl _).alloc _).trans hB'.out⟩

/-! ### what the laws carry along -/
structure HillR where
  ok : Bool
  W : Int
  H : Int
  n : Nat
  F : Nat → Nat
def HRet (R : HillR) (w : World) (e : Ending) (w' : World) : Prop := ∃ ao c xs, e = .returned (.tuple #[hillV R.W R.H ao R.n c, .bool R.ok]) ∧ ORow w.heap.size w'.heap.size w' ao R.n xs ∧ (∀ i, i < R.n → cn .f32 (xs.getD i 0) = R.F i) ∧ Bel w w'
def TV (W H : Int) (n : Nat) (xs : List Nat) : Rk.KSet := fun w u => ∃ ao, u = hillV W H ao n n ∧ FRow w ao n xs
theorem mon_TV (W H : Int) (n : Nat) (xs : List Nat) : Rk.Mon Bel (TV W H n xs) := fun w w' v hb ⟨ao, h, g⟩ => ⟨ao, h, g.bel hb⟩
def HV (R : HillR) (lo : Nat) : Rk.KSet := fun w u => ∃ ao c xs hi, u = .tuple #[hillV R.W R.H ao R.n c, .bool R.ok] ∧ ORow lo hi w ao R.n xs ∧ hi ≤ w.heap.size ∧ (∀ i, i < R.n → cn .f32 (xs.getD i 0) = R.F i)
theorem mon_HV (R : HillR) (lo : Nat) : Rk.Mon Bel (HV R lo) := fun w w' v hb ⟨ao, c, xs, hi, h, g, k, f⟩ => ⟨ao, c, xs, hi, h, g.bel hb, Nat.le_trans k hb.size, f⟩
section
variable {P : Program} {f : FuncId} {args : Array Value} {w : World}
theorem cg_TV {W H : Int} {n : Nat} {xs : List Nat} (h : Calls P f args w (TRet W H n xs w)) : Rk.CallGives P Bel f args w (TV W H n xs) :=
  h.mono fun e w' ⟨ao, he, hO, hb⟩ => ⟨_, he, hb, ao, rfl, hO.row⟩
theorem cg_HV {R : HillR} {lo : Nat} (hlo : lo ≤ w.heap.size) (h : Calls P f args w (HRet R w)) : Rk.CallGives P Bel f args w (HV R lo) :=
  h.mono fun e w' ⟨ao, c, xs, he, hO, hF, hb⟩ => ⟨_, he, hb, ao, c, xs, _, rfl, hO.mono hlo (Nat.le_refl _), Nat.le_refl _, hF⟩
end
theorem frow_lt {w : World} {ao : Option Addr} {n : Nat} {xs : List Nat} (h : FRow w ao n xs) (hn : 0 < n) (a : Addr) (ha : ao = some a) : a.block < w.heap.size := by
  obtain ⟨b, off, h1, h2, _⟩ := h.at0 hn
  rw [h1] at ha; cases ha; exact h2
theorem bel_only {w w1 w2 : World} {ao : Option Addr} (h : Bel w w1) (ho : Only ao w1 w2) (hB : ∀ a, ao = some a → w.heap.size ≤ a.block) : Bel w w2 := Below.trans h (ho.below hB)
theorem getD_len {xs : List Nat} {n j : Nat} (h : xs.length = n) (hj : ¬ j < n) : xs.getD j 0 = 0 := by
  have : xs[j]? = none := by rw [List.getElem?_eq_none_iff]; omega
  rw [List.getD_eq_getElem?_getD, this]; rfl
theorem eqAll_of {w w' : World} {ao bo : Option Addr} {n : Nat} {xs ys : List Nat} (hx : FRow w ao n xs) (hy : FRow w' bo n ys) (h : ∀ i, i < n → cn .f32 (xs.getD i 0) = cn .f32 (ys.getD i 0)) : eqAll xs ys := by
  intro j
  by_cases hj : j < n
  · exact h j hj
  · rw [getD_len hx.len hj, getD_len hy.len hj]
end Go.Proofs.Ytobghfjkkkfecaa
