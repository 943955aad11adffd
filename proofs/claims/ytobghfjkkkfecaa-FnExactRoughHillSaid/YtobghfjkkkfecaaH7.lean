/-
  CONTRACTS: hills turned.
-/
import Derived.Test.YtobghfjkkkfecaaH6
import Derived.BigRegion
set_option linter.unusedSimpArgs false
set_option linter.unusedVariables false
namespace Go.Proofs.Ytobghfjkkkfecaa
open Go.RowKit Go.Fl

theorem valid_nat {W H : Int} {n : Nat} {xs : List Nat} (h : validB W H n xs = true) : ∃ a b : Nat, W = (a : Int) ∧ H = (b : Int) ∧ 1 ≤ a ∧ a ≤ 16 ∧ 1 ≤ b ∧ b ≤ 16 ∧ n = b * a ∧ finB xs n = true := by
  unfold validB at h
  simp only [Bool.and_eq_true, decide_eq_true_eq] at h
  obtain ⟨⟨h1, h2⟩, h3⟩ := h
  obtain ⟨⟨a1, a2⟩, a3, a4⟩ := sideB_iff.1 h1
  obtain ⟨a, rfl⟩ := Int.eq_ofNat_of_zero_le (a := W) (by omega)
  obtain ⟨b, rfl⟩ := Int.eq_ofNat_of_zero_le (a := H) (by omega)
  refine ⟨a, b, rfl, rfl, by omega, by omega, by omega, by omega, ?_, h3⟩
  have e2 : (((b * a : Nat) : Int) = (a : Int) * (b : Int)) := by rw [Int.natCast_mul, Int.mul_comm]
  omega
theorem mod_cell {x y a : Nat} (hx : x < a) : (y * a + x) % a = x ∧ (y * a + x) / a = y := by
  have h0 : 0 < a := by omega
  rw [Nat.add_comm, Nat.add_mul_mod_self_right, Nat.add_mul_div_right _ _ h0, Nat.mod_eq_of_lt hx, Nat.div_eq_of_lt hx]
  exact ⟨rfl, by omega⟩
/-- cell 'k' of the turned hill: which cell it was ('a', 'b': the old hill's sides) -/
def turnAt (a b k : Nat) : Nat := (b - 1 - k % b) * a + k / b
def turnF (a b : Nat) (xs : List Nat) (k : Nat) : Nat := cn .f32 (xs.getD (turnAt a b k) 0)
theorem turn_lt {a b k : Nat} (ha : 1 ≤ a) (hb : 1 ≤ b) (hk : k < a * b) : turnAt a b k < b * a := by
  unfold turnAt
  have h1 : k % b < b := Nat.mod_lt _ (by omega)
  have h2 : k / b < a := by rw [Nat.div_lt_iff_lt_mul (by omega)]; exact hk
  have h3 : (b - 1 - k % b + 1) * a ≤ b * a := Nat.mul_le_mul_right a (by omega)
  rw [Nat.add_mul, Nat.one_mul] at h3
  omega
def turnR (W H : Int) (n : Nat) (xs : List Nat) : HillR := if validB W H n xs then madeR H.toNat W.toNat (turnF W.toNat H.toNat xs) else ⟨false, 0, 0, 0, fun _ => 0⟩
theorem turn_fin {a b : Nat} {xs : List Nat} (ha : 1 ≤ a) (hb : 1 ≤ b) (h : finB xs (b * a) = true) : allB (fun i => fin32B (turnF a b xs i)) (a * b) = true := by
  rw [allB_iff]
  intro i hi
  unfold finB at h
  exact allB_iff.1 h _ (turn_lt ha hb hi)
theorem madeR_n {a b : Nat} {F : Nat → Nat} (ha : a ≤ 16) (hb : b ≤ 16) : (madeR a b F).n ≤ 1048576 := by
  unfold madeR
  have := Nat.mul_le_mul hb ha
  split <;> simp; omega
theorem turnR_n (W H : Int) (n : Nat) (xs : List Nat) : (turnR W H n xs).n ≤ 1048576 := by
  unfold turnR
  cases hv : validB W H n xs with
  | false => simp
  | true =>
    obtain ⟨a, b, rfl, rfl, h1, h2, h3, h4, _, _⟩ := valid_nat hv
    exact madeR_n (by omega) (by omega)
/-- a row's cell, in a grown world -/
theorem frow_cell {w w' : World} {b off n : Nat} {xs : List Nat} (h : FRow w (some ⟨b, off, none⟩) n xs) (hb : Bel w w') {i : Nat} (hi : i < n) : w'.cell? ⟨b, off + i, none⟩ = some (.float .f32 (xs.getD i 0)) := by
  obtain ⟨b', off', h1, h2, h3⟩ := h.at0 (by omega)
  cases h1
  exact (h.bel hb).at0 (by omega) |> fun ⟨_, _, e, _, g⟩ => by cases e; exact g i hi

theorem iTurnHow (w0 : World) (bx : Nat) (a b : Nat) (ha1 : 1 ≤ a) (ha2 : a ≤ 16) (hb1 : 1 ≤ b) (hb2 : b ≤ 16) (bo off c : Nat) (xs : List Nat) (hX : HBox w0 bx a b (.slice (some ⟨bo, off, none⟩) (b * a) c)) (hA : FRow w0 (some ⟨bo, off, none⟩) (b * a) xs) :
    HowGives 64 #[.pointer (some ⟨bx, 0, none⟩)] b w0 (turnF a b xs) (a * b) := by
  intro x y w hx hk hB
  obtain ⟨_, c0, c1, c2⟩ := HBox.bel hX hB
  have hy : y < a := by
    rcases Nat.lt_or_ge y a with h | h
    · exact h
    · have := Nat.mul_le_mul_right b h; omega
  obtain ⟨e1, e2⟩ := mod_cell (y := y) hx
  have hlt := turn_lt ha1 hb1 hk
  have et : turnAt a b (y * b + x) = (b - 1 - x) * a + y := by unfold turnAt; rw [e1, e2]
  rw [et] at hlt
  have hc := frow_cell hA hB hlt
  have h256 : b * a ≤ 256 := Nat.mul_le_mul hb2 ha2
  have eI : ((b : Int) - 1 - x) * a + y = (((b - 1 - x) * a + y : Nat) : Int) := by
    rw [Int.natCast_add, Int.natCast_mul, Int.natCast_sub (by omega), Int.natCast_sub (by omega)]; rfl
  have hr : Is .f32 (xs.getD ((b - 1 - x) * a + y) 0) (turnF a b xs (y * b + x)) := by
    unfold turnF; rw [et]; exact hA.is hlt
  obtain ⟨X, hXd⟩ : ∃ X, X = xs.getD ((b - 1 - x) * a + y) 0 := ⟨_, rfl⟩
  rw [← hXd] at hc hr
  obtain ⟨m, hm⟩ : ∃ m, m = (b - 1 - x) * a + y := ⟨_, rfl⟩
  rw [← hm] at hlt hc eI
  clear hA hX hB et e1 e2 hXd hm
  go_enter Try.func64, Try.ntmps64
  go_wp2_with fail
  go_ret
  exact ⟨_, rfl, Bel.refl _, X, rfl, hr⟩
set_option maxHeartbeats 2000000 in
theorem iTurnHill_any (w : World) (W H : Int) (ao : Option Addr) (n c : Nat) (xs : List Nat) (hA : FRow w ao n xs) (hm : n ≤ 1048576) :
    Calls Try.prog 27 #[hillV W H ao n c] w (HRet (turnR W H n xs) w) := by
  have hA' := Lib.hid hA
  clear hA
  cases hv : validB W H n xs with
  | false =>
    have hR := Lib.hid (show turnR W H n xs = ⟨false, 0, 0, 0, fun _ => 0⟩ by unfold turnR; rw [hv]; rfl)
    have hv' := Lib.hid hv
    clear hv
    go_enter Try.func27, Try.ntmps27
    go_wp2_with fail
    refine (iValidHill_any _ W H _ _ _ xs (by exact (hA'.out.alloc _).alloc _) hm).mono ?_
    rintro e w1 ⟨rfl, hB⟩
    rw [hv'.out]
    have hY := HBox.bel (hbox_at (w.alloc _) (w.heap.size + 1) (by simp) 0 0 (.slice none 0 0) 27) hB
    obtain ⟨_, y0, y1, y2⟩ := hY
    have f0 : w1.frozen? ⟨w.heap.size + 1, 0, none⟩ = false := by rw [hB.frozen (by simp)]; go_simp
    have f1 : w1.frozen? ⟨w.heap.size + 1, 1, none⟩ = false := by rw [hB.frozen (by simp)]; go_simp
    have f2 : w1.frozen? ⟨w.heap.size + 1, 2, none⟩ = false := by rw [hB.frozen (by simp)]; go_simp
    have hB' := Lib.hid hB
    clear hB
    go_wp2_with fail
    refine bodyPost_ret (v := .tuple #[hillV 0 0 none 0 0, .bool false]) (by simp [results, Try.results27, go_sem, y0, y1, y2]) rfl ?_
    rw [hR.out]
    refine ⟨none, 0, [], rfl, ORow.nil _ _ _, fun i hi => absurd hi (Nat.not_lt_zero _), ?_⟩
    exact ((((((Bel.refl w).alloc _).alloc _).trans hB'.out).setCell (by simp) _).setCell (by simp) _).setCell (by simp) _
  | true =>
    obtain ⟨a, b, rfl, rfl, ha1, ha2, hb1, hb2, rfl, hf⟩ := valid_nat hv
    have hR := Lib.hid (show turnR a b (b * a) xs = madeR b a (turnF a b xs) by unfold turnR; rw [hv]; simp)
    have hv' := Lib.hid hv
    clear hv hf
    have hpos : 0 < b * a := Nat.mul_pos (by omega) (by omega)
    obtain ⟨bo, off, rfl, _⟩ := hA'.out.at0 hpos
    go_enter Try.func27, Try.ntmps27
    go_wp2_with fail
    refine (iValidHill_any _ a b _ _ _ xs (by exact (hA'.out.alloc _).alloc _) hm).mono ?_
    rintro e w1 ⟨rfl, hB⟩
    rw [hv'.out]
    have hX := HBox.bel ((hbox_new w a b (.slice (some ⟨bo, off, none⟩) (b * a) c) 27).alloc _) hB
    have hX' := Lib.hid hX
    have hY := Lib.hid (HBox.bel (hbox_at (w.alloc _) (w.heap.size + 1) (by simp) 0 0 (.slice none 0 0) 27) hB)
    obtain ⟨_, x0, x1, x2⟩ := hX
    have hA1 := Lib.hid (((hA'.out.alloc _).alloc _).bel hB)
    have g0 : w1.frozen? ⟨w.heap.size + 1, 0, none⟩ = false := by rw [hB.frozen (by simp)]; go_simp
    have g1 : w1.frozen? ⟨w.heap.size + 1, 1, none⟩ = false := by rw [hB.frozen (by simp)]; go_simp
    have g2 : w1.frozen? ⟨w.heap.size + 1, 2, none⟩ = false := by rw [hB.frozen (by simp)]; go_simp
    have hG := Lib.hid (And.intro g0 (And.intro g1 g2))
    clear g0 g1 g2
    have hB' := Lib.hid hB
    have hsz := Lib.hid (show w.heap.size + 2 ≤ w1.heap.size from by have := Below.size hB; simp at this; omega)
    clear hB
    go_wp2_with fail
    refine (made_any w1 b a hb1 hb2 ha1 ha2 64 #[.pointer (some ⟨w.heap.size, 0, none⟩)] (Rg.enters Try.func64 (by kernel_rfl) (by kernel_rfl)) (turnF a b xs) (iTurnHow w1 w.heap.size a b ha1 ha2 hb1 hb2 bo off c xs hX'.out hA1.out)).mono ?_
    rintro e w2 ⟨ao2, c2, ws, rfl, hO, hF, hB2⟩
    obtain ⟨_, y0, y1, y2⟩ := HBox.bel hY.out hB2
    have f0 : w2.frozen? ⟨w.heap.size + 1, 0, none⟩ = false := by rw [hB2.frozen (by have := hY.out.1; simpa using this)]; exact hG.out.1
    have f1 : w2.frozen? ⟨w.heap.size + 1, 1, none⟩ = false := by rw [hB2.frozen (by have := hY.out.1; simpa using this)]; exact hG.out.2.1
    have f2 : w2.frozen? ⟨w.heap.size + 1, 2, none⟩ = false := by rw [hB2.frozen (by have := hY.out.1; simpa using this)]; exact hG.out.2.2
    have hO' := Lib.hid hO
    have hF' := Lib.hid hF
    have hB2' := Lib.hid hB2
    clear hO hF hB2 x0 x1 x2
    rw [← hR.out] at *
    go_wp2_with fail
    refine bodyPost_ret (v := .tuple #[hillV (turnR a b (b * a) xs).W (turnR a b (b * a) xs).H ao2 (turnR a b (b * a) xs).n c2, .bool (turnR a b (b * a) xs).ok]) (by simp [results, Try.results27, go_sem, y0, y1, y2]) rfl ?_
    refine ⟨ao2, c2, ws, rfl, ?_, hF'.out, ?_⟩
    · refine (((hO'.out.setBelow (by have := hsz.out; simp; omega) _).setBelow (by have := hsz.out; simp; omega) _).setBelow (by have := hsz.out; simp; omega) _).mono (by have := hsz.out; omega) (by simp [World.setCell])
    · exact ((((((Bel.refl w).alloc _).alloc _).trans (hB'.out.trans hB2'.out)).setCell (by simp) _).setCell (by simp) _).setCell (by simp) _
end Go.Proofs.Ytobghfjkkkfecaa
