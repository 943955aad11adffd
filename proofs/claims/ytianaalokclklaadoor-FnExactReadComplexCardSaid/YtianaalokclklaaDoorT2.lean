/-
  THE LAW 'FnExactDecimal': its walk.
-/
import Derived.Test.YtianaalokclklaaDoorT1
import Derived.Test.YtianaalokclklaaDoorSb
import Derived.Test.YtianaalokclklaaDoorShelf
import Derived.Lib.LaidTab
import Derived.Stop.LaidErr
set_option linter.unusedSimpArgs false
set_option linter.unusedVariables false
namespace Go.Proofs.YtianaalokclklaaDoor
open Go.RowKit Go.Fl

abbrev Tab (w : World) : Prop := Lib.TabIs Tryd.prog w "internal/strconv.uint64pow10" .u64 Lib.pow10Tab
theorem var_bel {P : Program} {w w' : World} {name : String} {cs : Array Value} (h : w.var? P name = some cs) (hb : Bel w w') : w'.var? P name = some cs := by
  unfold World.var? at *
  cases hg : P.globalNamed name with
  | none => rw [hg] at h; cases h
  | some g =>
    rw [hg] at h
    simp only [Option.bind_some] at h ⊢
    cases hh : w.heap[g]? with
    | none => rw [hh] at h; cases h
    | some o =>
      rw [hb.block g (Array.getElem?_eq_some_iff.1 hh).1]
      exact h
theorem tab_bel {w w' : World} (h : Tab w) (hb : Bel w w') : Tab w' := var_bel h hb
theorem sDecimal_any (w : World) (n : Int) (h1 : -9223372036854775808 ≤ n) (h2 : n ≤ 9223372036854775807) : Calls Tryd.prog 10 #[.int .i64 n] w (StRet (Lib.itoa n) w) := by
  go_enter Tryd.func10, Tryd.ntmps10
  go_wp2_with fail
  refine (l01Dec_any w n h1 h2).mono ?_
  rintro e w' ⟨rfl, hB⟩
  go_wp2_with fail
  go_ret
  exact ⟨rfl, hB⟩
theorem grow_bel (w : World) (k : Nat) (os : Array Obj) : Bel w (Sort.grow (w.drewN k) os) := by
  refine ⟨rfl, rfl, rfl, by simp [Sort.grow], fun j hj => ?_⟩
  show (w.heap ++ os)[j]? = w.heap[j]?
  rw [Array.getElem?_append_left hj]
theorem iDecimal_any (w : World) (n : Int) (h1 : -9223372036854775808 ≤ n) (h2 : n ≤ 9223372036854775807) (ht : Tab w) : Calls Tryd.prog 11 #[.int .i64 n] w (StRet (Lib.itoa n) w) := by
  go_enter Tryd.func11, Tryd.ntmps11
  go_wp2_with fail
  refine (Tryd.strconv_FormatInt_10 n h1 h2 w ht).mono ?_
  rintro e w' ⟨rfl, k, os, rfl⟩
  go_wp2_with fail
  go_ret
  exact ⟨rfl, grow_bel _ _ _⟩
theorem walkFnExactDecimal (w : World) (n : Int) (hn : (Lit.int .i64 n).wf = true) (ht : Tab w) : Calls Tryd.prog 3 #[.int .i64 n] w (fun e w' => e = .returned (.bool true) ∧ Bel w w') := by
  obtain ⟨h1, h2⟩ := i64_wf hn
  clear hn
  obtain ⟨s, hs⟩ : ∃ s, s = Lib.itoa n := ⟨_, rfl⟩
  go_enter Tryd.func3, Tryd.ntmps3
  go_wp2_with fail
  refine (sDecimal_any w n h1 h2).mono ?_
  rintro e w1 ⟨rfl, hB⟩
  have ht1 := Lib.hid (tab_bel ht hB)
  have hB1 := Lib.hid hB
  clear ht hB
  rw [← hs]
  go_wp2_with fail
  refine (iDecimal_any w1 n h1 h2 ht1.out).mono ?_
  rintro e w2 ⟨rfl, hB⟩
  replace hB1 := Lib.hid (hB1.out.trans hB)
  clear hB
  rw [← hs]
  clear hs
  go_wp2_with fail
  go_ret
  exact ⟨rfl, hB1.out⟩
theorem g17 : Tryd.prog.globalNamed "internal/strconv.uint64pow10" = some 1 := by kernel_rfl
theorem g17t : (Tryd.prog.globals[1]?).map (·.type) = some 113 := by kernel_rfl
theorem tab_laid {W : World} (h : laidMet Tryd.prog Rows.fnExactDecimalRow.laid W) : Tab W :=
  Lib.tabIs_of_head (n := 20) g17 g17t Tryd.underlying113 Tryd.underlying80 (by kernel_rfl) (by kernel_rfl) (h.tail.tail)
theorem factsFnExactDecimal {W : World} (h : laidMet Tryd.prog Rows.fnExactDecimalRow.laid W) : Tab W := tab_laid h
end Go.Proofs.YtianaalokclklaaDoor
