/-
  WHAT THE LAW ON TWO HILLS NEEDS: a hill and whether it is one, taken apart and stored in a fresh variable.
-/
import Derived.Test.YtobghfjkkkfecaaH11
import Derived.Test.YtobghfjkkkfecaaRt
set_option linter.unusedSimpArgs false
set_option linter.unusedVariables false
namespace Go.Proofs.Ytobghfjkkkfecaa
open Go.RowKit Go.Fl

def HV0 (R : HillR) (lo : Nat) : Rk.KSet := fun w u => ∃ ao c xs hi, u = hillV R.W R.H ao R.n c ∧ ORow lo hi w ao R.n xs ∧ hi ≤ w.heap.size ∧ (∀ i, i < R.n → cn .f32 (xs.getD i 0) = R.F i)
theorem mon_HV0 (R : HillR) (lo : Nat) : Rk.Mon Bel (HV0 R lo) := fun w w' v hb ⟨ao, c, xs, hi, h, g, k, f⟩ => ⟨ao, c, xs, hi, h, g.bel hb, Nat.le_trans k hb.size, f⟩
def OkV (R : HillR) : Rk.KSet := fun w u => ∃ ao c, u = .tuple #[hillV R.W R.H ao R.n c, .bool R.ok]
theorem store_hill {dst : Option Tmp} {ty : TypeId} {pos : String} {after : Array Edge} {guard : Option (Nat × Bool)} {x y : Operand} (ρ : Operand → Value) (w' : World) (b : Nat) (W H : Int) (ao : Option Addr) (n c : Nat) (hx : ρ x = .pointer (some ⟨b, 0, none⟩)) (hy : ρ y = hillV W H ao n c) (hY : w'.heap[b]? = some resO) :
    (execOp ρ ⟨dst, .store 27 x y, ty, pos, after, guard⟩).run Try.prog w' = .ok .skip (((w'.setCell ⟨b, 0, none⟩ (.int .i64 W)).setCell ⟨b, 1, none⟩ (.int .i64 H)).setCell ⟨b, 2, none⟩ (.slice ao n c)) := by
  have hR : RBox w' b := ⟨(Array.getElem?_eq_some_iff.1 hY).1, hY⟩
  obtain ⟨y0, y1, y2, f0, f1, f2⟩ := rbox_facts hR
  clear hR hY
  go_simp
theorem orow_res {w : World} {b lo hi n : Nat} {ao : Option Addr} {xs : List Nat} (h : ORow lo hi w ao n xs) (hb : w.heap[b]? = some resO) (v0 v1 v2 : Value) : ORow lo hi (((w.setCell ⟨b, 0, none⟩ v0).setCell ⟨b, 1, none⟩ v1).setCell ⟨b, 2, none⟩ v2) ao n xs := by
  by_cases hn : 0 < n
  · have hne : ∀ a, ao = some a → a.block ≠ b := by
      intro a ha e
      obtain ⟨b', off, h1, h2, h3⟩ := h.row.at0 hn
      rw [h1] at ha; cases ha
      have e' : b' = b := e
      subst e'
      have h4 := h3 0 hn
      unfold World.cell? at h4
      simp only [hb] at h4
      match off, h4 with
      | 0, h4 => simp at h4
      | 1, h4 => simp at h4
      | 2, h4 => simp at h4
      | k + 3, h4 => simp at h4
    exact ((h.setOther hne _).setOther hne _).setOther hne _
  · have h0 : n = 0 := by omega
    subst h0
    refine ⟨⟨h.row.len, fun g => absurd g (by omega), fun i hi => absurd hi (by omega)⟩, fun a ha => ?_⟩
    obtain ⟨g1, g2, g3, g4⟩ := h.own a ha
    exact ⟨g1, g2, by simpa [World.setCell] using g3, fun j => by rw [World.frozen?_setCell, World.frozen?_setCell, World.frozen?_setCell]; exact g4 j⟩
theorem hset {cur w : World} {b lo hi n c : Nat} {W H : Int} {ao : Option Addr} {xs : List Nat} (hB : Bel cur w) (hlo : cur.heap.size ≤ b) (hb : w.heap[b]? = some resO) (h : ORow lo hi w ao n xs) (hhi : hi ≤ w.heap.size) :
    ∃ wn, wn = (((w.setCell ⟨b, 0, none⟩ (.int .i64 W)).setCell ⟨b, 1, none⟩ (.int .i64 H)).setCell ⟨b, 2, none⟩ (.slice ao n c)) ∧ Bel cur wn ∧ HBox wn b W H (.slice ao n c) ∧ ORow lo wn.heap.size wn ao n xs ∧ b < wn.heap.size := by
  have hlt := (Array.getElem?_eq_some_iff.1 hb).1
  have hR : RBox w b := ⟨hlt, hb⟩
  obtain ⟨y0, y1, y2, f0, f1, f2⟩ := rbox_facts hR
  refine ⟨_, rfl, ((hB.setCell hlo _).setCell hlo _).setCell hlo _, ⟨by simpa [World.setCell] using hlt, ?_, ?_, ?_⟩, (orow_res h hb _ _ _).mono (Nat.le_refl _) (by simpa [World.setCell] using hhi), by simpa [World.setCell] using hlt⟩
  · go_simp
  · go_simp
  · go_simp
theorem run_ex0 {dst : Option Tmp} {ty : TypeId} {pos : String} {after : Array Edge} {guard : Option (Nat × Bool)} {x : Operand} {R : HillR} {lo : Nat} (ρ : Operand → Value) (w : World) (h : HV R lo w (ρ x)) :
    ∃ u, (execOp ρ ⟨dst, .extract x 0, ty, pos, after, guard⟩).run Try.prog w = .ok (.value u) w ∧ HV0 R lo w u := by
  obtain ⟨ao, c, xs, hi, h1, h2, h3, h4⟩ := h
  refine ⟨hillV R.W R.H ao R.n c, ?_, ao, c, xs, hi, rfl, h2, h3, h4⟩
  simp [execOp, h1, Instr.extract]
theorem run_allocHill {dst : Option Tmp} {ty : TypeId} {pos : String} {after : Array Edge} {guard : Option (Nat × Bool)} (ρ : Operand → Value) (w : World) :
    (execOp ρ ⟨dst, .alloc 27, ty, pos, after, guard⟩).run Try.prog w = .ok (.value (.pointer (some ⟨w.heap.size, 0, none⟩))) (w.alloc resO) := by
  go_simp
theorem run_ex1 {dst : Option Tmp} {ty : TypeId} {pos : String} {after : Array Edge} {guard : Option (Nat × Bool)} {x : Operand} {R : HillR} {lo : Nat} (ρ : Operand → Value) (w : World) (h : HV R lo w (ρ x)) :
    ∃ u, (execOp ρ ⟨dst, .extract x 1, ty, pos, after, guard⟩).run Try.prog w = .ok (.value u) w ∧ Rk.Is1 (.bool R.ok) w u := by
  obtain ⟨ao, c, xs, hi, h1, h2, h3, h4⟩ := h
  refine ⟨.bool R.ok, ?_, rfl⟩
  simp [execOp, h1, Instr.extract]
end Go.Proofs.Ytobghfjkkkfecaa
