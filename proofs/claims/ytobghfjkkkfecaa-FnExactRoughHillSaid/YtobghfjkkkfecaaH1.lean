/-
  CONTRACTS: hills handed on, compared, marked, asked for validity.
-/
import Derived.Test.YtobghfjkkkfecaaH0
set_option linter.unusedSimpArgs false
set_option linter.unusedVariables false
namespace Go.Proofs.Ytobghfjkkkfecaa
open Go.RowKit Go.Fl

abbrev hillV (W H : Int) (ao : Option Addr) (n c : Nat) : Value := .agg #[.int .i64 W, .int .i64 H, .slice ao n c]
def TRet (W H : Int) (n : Nat) (xs : List Nat) (w : World) (e : Ending) (w' : World) : Prop := ∃ ao, e = .returned (hillV W H ao n n) ∧ ORow w.heap.size w'.heap.size w' ao n xs ∧ Bel w w'

set_option maxHeartbeats 1000000 in
theorem toHill_any (w : World) (W H : Int) (ao : Option Addr) (n c : Nat) (xs : List Nat) (hA : FRow w ao n xs) (hm : n ≤ 1048576) :
    Calls Try.prog 17 #[hillV W H ao n c] w (TRet W H n xs w) := by
  have hA' := Lib.hid hA
  clear hA
  go_enter Try.func17, Try.ntmps17
  go_wp2_with fail
  refine (toF32o _ _ _ _ xs (by exact ((hA'.out.alloc _).alloc _).alloc _) hm).mono ?_
  rintro e w1 ⟨ao1, rfl, hO, hB⟩
  have f0 : w1.cell? ⟨w.heap.size + 1 + 1, 0, none⟩ = some (.int .i64 W) := by rw [hB.cell (by simp)]; go_simp
  have f1 : w1.cell? ⟨w.heap.size + 1 + 1, 1, none⟩ = some (.int .i64 H) := by rw [hB.cell (by simp)]; go_simp
  have f2 : w1.cell? ⟨w.heap.size + 1 + 1, 2, none⟩ = some (.slice none 0 0) := by rw [hB.cell (by simp)]; go_simp
  have g0 : w1.cell? ⟨w.heap.size + 1, 0, none⟩ = some (.int .i64 0) := by rw [hB.cell (by simp)]; go_simp
  have g1 : w1.cell? ⟨w.heap.size + 1, 1, none⟩ = some (.int .i64 0) := by rw [hB.cell (by simp)]; go_simp
  have g2 : w1.cell? ⟨w.heap.size + 1, 2, none⟩ = some (.slice none 0 0) := by rw [hB.cell (by simp)]; go_simp
  have k2 : w1.frozen? ⟨w.heap.size + 1 + 1, 2, none⟩ = false := by rw [hB.frozen (by simp)]; go_simp
  have j0 : w1.frozen? ⟨w.heap.size + 1, 0, none⟩ = false := by rw [hB.frozen (by simp)]; go_simp
  have j1 : w1.frozen? ⟨w.heap.size + 1, 1, none⟩ = false := by rw [hB.frozen (by simp)]; go_simp
  have j2 : w1.frozen? ⟨w.heap.size + 1, 2, none⟩ = false := by rw [hB.frozen (by simp)]; go_simp
  have hO' := Lib.hid hO
  have hB' := Lib.hid hB
  clear hO hB
  go_wp2_with fail
  refine bodyPost_ret (v := hillV W H ao1 n n) (by simp [results, Try.results17, go_sem, f0, f1, f2, g0, g1, g2]) rfl ⟨ao1, rfl, ?_, ?_⟩
  · refine ((((hO'.out.setBelow ?_ _).setBelow ?_ _).setBelow ?_ _).setBelow ?_ _).mono ?_ ?_ <;> simp [World.setCell]
    omega
  · exact ((((((((Bel.refl w).alloc _).alloc _).alloc _).trans hB'.out).setCell (by simp; omega) _).setCell (by simp) _).setCell (by simp) _).setCell (by simp) _
set_option maxHeartbeats 1000000 in
theorem eqHill_any (w : World) (W H : Int) (ao bo : Option Addr) (n c d : Nat) (xs ys : List Nat) (hA : FRow w ao n xs) (hB : FRow w bo n ys) (hm : n ≤ 1048576) (he : eqAll xs ys) :
    Calls Try.prog 19 #[hillV W H ao n c, hillV W H bo n d] w (BRet (.bool true) w) := by
  have hA' := Lib.hid hA
  have hB' := Lib.hid hB
  have he' := Lib.hid he
  clear hA hB he
  go_enter Try.func19, Try.ntmps19
  go_wp2_with fail
  refine (eqF32 _ _ _ _ _ _ xs ys (by exact (hA'.out.alloc _).alloc _) (by exact (hB'.out.alloc _).alloc _) hm he'.out).mono ?_
  rintro e w1 ⟨rfl, nd, rfl⟩
  go_wp2_with fail
  go_ret
  exact ⟨rfl, (((Bel.refl _).alloc _).alloc _).drewN _⟩
end Go.Proofs.Ytobghfjkkkfecaa
