/-
  CONTRACTS: a number's digits, the reference's.
-/
import Derived.Test.YtianaalokclklaaDoorRows
import Derived.Test.YtianaalokclklaaDoorDec
import Derived.Test.YtianaalokclklaaDoorMd
import Derived.WalkKit
import Derived.WalkSpells
import Derived.WalkLawsBesides
import Derived.Lib.Hide
import Derived.Deep.OwnRows
import Derived.Deep.LoopGhost
import Derived.Laws.IdiomStrings
set_option linter.unusedSimpArgs false
set_option linter.unusedVariables false
namespace Go.Proofs.YtianaalokclklaaDoor
open Go.RowKit Go.Fl

theorem infoU8 : (Tryd.prog.info? 5).map (fun i => (i.zero, i.size, i.bytes)) = some (some (.int .u8 0), 1, 1) := by kernel_rfl
/-- what a text is -/
def StRet (l : List UInt8) (w : World) (e : Ending) (w' : World) : Prop := e = .returned (.string ⟨l.toArray⟩) ∧ Bel w w'
/-- a row of bytes of the call's own -/
def BRow (w wr : World) (v : Value) (L : List UInt8) : Prop := ∃ g cap, v = .slice (some ⟨g, 0, none⟩) L.length cap ∧ wr.ownsRow w.heap.size 5 1 v L.length (Lib.byteCells L) ∧ Bel w wr
theorem byteCells_one (L : List UInt8) : ∀ u ∈ Lib.byteCells L, u.oneCell' = true := by
  intro u hu
  unfold Lib.byteCells at hu
  obtain ⟨c, _, rfl⟩ := List.mem_map.1 hu
  rfl
/-- a row put behind one value in a block just made -/
theorem wpList_pre {P : Program} {ops : Array Oper} {rest : List Oper} {o : Oper} {a : Act} {Q : Exit → Act → World → Prop} {w1 : World} {c : Value} (hgd : o.guard = none) (s x : Operand) (t : TypeId)
    (ho : o.op = .call { callee := .builtin .append, args := #[s, x], argTypes := #[t, t] }) (base : Nat) (e : TypeId) (i : TypeInfo) (z : Value) (bytes : Nat) (ht : P.underlying t = some (.slice e)) (hi : P.info? e = some i) (hz : i.zero = some z)
    (hsize : i.size = 1) (hby : i.bytes = bytes) (hzs : z.cells.size = 1) (hc1 : c.oneCell' = true) (hs : a.eval s = .slice (some ⟨w1.heap.size, 0, none⟩) 1 1) (ad : Addr) (m cap : Nat) (L : List Value) (hx : a.eval x = .slice (some ad) m cap) (hl : L.length = m)
    (hcell : ∀ j u, L[j]? = some u → w1.cell? (ad.add j) = some u) (h1 : ∀ u ∈ L, u.oneCell' = true) (hb : (1 + m) * bytes ≤ 140737488355328) (hm : 1 + m ≤ maxLen) (hbase : base ≤ w1.heap.size)
    (h : ∀ v' w', w'.ownsRow base e 1 v' (1 + m) ([c] ++ L) → (w1.alloc (.cells #[c] e)).grownBy w' (some w1.heap.size) → wpList P ops Q rest (a.put o.dst v') w') : wpList P ops Q (o :: rest) a (w1.alloc (.cells #[c] e)) := by
  refine wpList_append_own _ hgd s x t ho base e i z 1 bytes ht hi hz hsize hby hzs (by omega) _ 1 [c] hs ?_ ad m cap L hx (by omega) ?_ h1 hm hb (by simp; omega) ?_
  · exact World.ownsRow_lit w1 #[c] 1 hbase (by unfold maxLen; omega) rfl
  · intro j u hu
    have := hcell j u hu
    have h9 := lt_of_cell this
    exact (((Bel.refl w1).alloc _).cell (p := ad.add j) h9).trans this
  · intro v' w' h2 h3 _
    exact h v' w' h2 h3
theorem brow_cells {w wr : World} {g cap : Nat} {L : List UInt8} (h : wr.ownsRow w.heap.size 5 1 (.slice (some ⟨g, 0, none⟩) L.length cap) L.length (Lib.byteCells L)) : ∀ j u, (Lib.byteCells L)[j]? = some u → wr.cell? ((⟨g, 0, none⟩ : Addr).add j) = some u :=
  World.ownsRow.cells h rfl
theorem brow_next {w wr w2 : World} {L : List UInt8} {c : UInt8} {o : Obj} {v2 : Value} (hbel : Bel w wr) (hown : w2.ownsRow w.heap.size 5 1 v2 (1 + L.length) ([.int .u8 (c.toNat : Int)] ++ Lib.byteCells L)) (hg : (wr.alloc o).grownBy w2 (some wr.heap.size)) : BRow w w2 v2 (c :: L) := by
  have e : 1 + L.length = (c :: L).length := by simp; omega
  rw [e, ← bytes_cons] at hown
  obtain ⟨g, cap, rfl⟩ := own_succ (n := L.length) hown
  have hs := hbel.size
  have hb : Below w.heap.size (wr.alloc o) w2 := (Below.refl _ _).grown hg (by simp; omega) (by intro k hk; cases hk; exact hs)
  exact ⟨g, cap, rfl, hown, Below.trans (hbel.alloc o) hb⟩
theorem conv_row {w wr : World} {g cap : Nat} {L : List UInt8} (h : wr.ownsRow w.heap.size 5 1 (.slice (some ⟨g, 0, none⟩) L.length cap) L.length (Lib.byteCells L)) :
    (convert 71 9 (.slice (some ⟨g, 0, none⟩) L.length cap)).run Tryd.prog wr = .ok (.string ⟨L.toArray⟩) wr :=
  run_convert_bytes_back wr _ _ 5 _ _ L Tryd.underlying71 Tryd.underlying5 Tryd.underlying9 fun j hj => brow_cells h j _ (by unfold Lib.byteCells; rw [List.getElem?_map, List.getElem?_eq_getElem hj]; rfl)
set_option maxRecDepth 100000 in
set_option maxHeartbeats 4000000 in
theorem l01Dec_any (w : World) (n : Int) (h1 : -9223372036854775808 ≤ n) (h2 : n ≤ 9223372036854775807) :
    Calls Tryd.prog 35 #[.int .i64 n] w (StRet (Lib.itoa n) w) := by
  obtain ⟨i0, hi0, hz0, hz1, hz2⟩ := info_parts infoU8
  go_enter Tryd.func35, Tryd.ntmps35
  go_wp2_with fail
  go_loopg [3, 4, 5] 20 (fun j v t _ wr => ∃ (L : List UInt8) (r : Int), t = .int .i64 r ∧ -9223372036854775808 ≤ r ∧ r ≤ 9223372036854775807 ∧ Hid (DInv n L r j) ∧ Hid (BRow w wr v L))
  case atStart => exact ⟨[], n, rfl, h1, h2, Lib.hid (DInv.start h1 h2), Lib.hid ⟨w.heap.size, 0, rfl, World.ownsRow_made w #[] 0 (Nat.le_refl _) (by unfold maxLen; omega) rfl, (Bel.refl w).alloc _⟩⟩
  case round =>
    obtain ⟨L, r, rfl, hr1, hr2, hD, hB⟩ := hrel
    obtain ⟨g, cap, rfl, hown, hbel⟩ := hB.out
    by_cases hg : L = [] ∨ r ≠ 0
    · cases gk with
      | zero => exact absurd hD.out.pos (by rintro ⟨e1, e2⟩; rcases hg with e | e; exact e1 e; exact e e2)
      | succ j =>
        have hDn := Lib.hid (hD.out.next hg)
        have hd := digit_in r
        have hll := hD.out.len
        obtain ⟨D, hDd⟩ : ∃ D, D = r.natAbs % 10 := ⟨_, rfl⟩
        obtain ⟨R, hRd⟩ : ∃ R, R = r.tdiv 10 := ⟨_, rfl⟩
        obtain ⟨hRb1, hRb2⟩ := tdiv_bd hr1 hr2
        have hdg := digit_nat hd
        rw [← hDd, ← hRd] at hDn
        rw [← hDd] at hd hdg
        rw [← hRd] at hRb1 hRb2
        obtain ⟨m, hm⟩ : ∃ m, m = L.length := ⟨_, rfl⟩
        have hcell := Lib.hid (brow_cells hown)
        have hle := Lib.hid (Lib.byteCells_length L)
        by_cases hs0 : 0 ≤ r
        · obtain ⟨e1, e2, e3⟩ := tmod_pos hs0
          rw [← hDd] at e1 e2
          rw [← hRd] at e3
          obtain ⟨C, hC⟩ : ∃ C, C = UInt8.ofNat (48 + D) := ⟨_, rfl⟩
          obtain ⟨B, hBd⟩ : ∃ B, B = C.toNat := ⟨_, rfl⟩
          have hB1 : B = 48 + D := by rw [hBd, hC]; exact hdg
          have hdn : (48 : Int) + (D : Int) = (B : Int) := by omega
          rw [← hC] at hDn
          replace hB1 := Lib.hid hB1
          replace hBd := Lib.hid hBd
          clear hC hdg
          have hg' : ((L.length : Int) == 0) = true ∨ (((L.length : Int) == 0) = false ∧ (r != 0) = true) := by
            by_cases hL0 : L = []
            · left; simp [hL0]
            · right
              refine ⟨by simpa using hL0, ?_⟩
              rcases hg with e | e
              · exact absurd e hL0
              · simp [e]
          clear hDd hRd
          rcases hg' with hgt | ⟨hgt, hgt2⟩
          all_goals
            go_wp2_with (at_builtin; refine wpList_pre rfl _ _ 71 rfl w.heap.size 5 i0 _ 1 Tryd.underlying71 hi0 hz0 hz1 hz2 rfl rfl rfl ⟨g, 0, none⟩ L.length cap (Lib.byteCells L) rfl hle.out hcell.out (byteCells_one L) (by omega) (by unfold maxLen; omega) hbel.size ?_; intro v2 w2 hown2 hgrow)
            rw [hBd.out] at hown2
            have hN := Lib.hid (brow_next hbel hown2 hgrow)
            clear hown2 hgrow
            go_wp2
            go_roundg j
            case measure => omega
            case rel => exact ⟨C :: L, R, by first | rfl | rw [e3], hRb1, hRb2, hDn, hN⟩
        · have e1 := tmod_neg (show r < 0 by omega)
          rw [← hDd] at e1
          have e3 : r.tdiv 10 = R := hRd.symm
          obtain ⟨C, hC⟩ : ∃ C, C = UInt8.ofNat (48 + D) := ⟨_, rfl⟩
          obtain ⟨B, hBd⟩ : ∃ B, B = C.toNat := ⟨_, rfl⟩
          have hB1 : B = 48 + D := by rw [hBd, hC]; exact hdg
          have hdn : (48 : Int) + (D : Int) = (B : Int) := by omega
          rw [← hC] at hDn
          replace hB1 := Lib.hid hB1
          replace hBd := Lib.hid hBd
          have hg' : ((L.length : Int) == 0) = true ∨ (((L.length : Int) == 0) = false ∧ (r != 0) = true) := by
            by_cases hL0 : L = []
            · left; simp [hL0]
            · right
              refine ⟨by simpa using hL0, ?_⟩
              rcases hg with e | e
              · exact absurd e hL0
              · simp [e]
          clear hC hdg hDd hRd
          by_cases hD0 : D = 0
          · subst hD0
            rcases hg' with hgt | ⟨hgt, hgt2⟩
            all_goals
              have h48 := Lib.hid (show (48 : Int) = (C.toNat : Int) from by have := hB1.out; have := hBd.out; omega)
              go_wp2_with (at_builtin; refine wpList_pre rfl _ _ 71 rfl w.heap.size 5 i0 _ 1 Tryd.underlying71 hi0 hz0 hz1 hz2 rfl rfl rfl ⟨g, 0, none⟩ L.length cap (Lib.byteCells L) rfl hle.out hcell.out (byteCells_one L) (by omega) (by unfold maxLen; omega) hbel.size ?_; intro v2 w2 hown2 hgrow)
              rw [h48.out] at hown2
              have hN := Lib.hid (brow_next hbel hown2 hgrow)
              clear hown2 hgrow
              go_wp2
              go_roundg j
              case measure => omega
              case rel => exact ⟨C :: L, R, by first | rfl | rw [e3], hRb1, hRb2, hDn, hN⟩
          · have hD1 : -(D : Int) < 0 := by omega
            rcases hg' with hgt | ⟨hgt, hgt2⟩
            all_goals
              go_wp2_with (at_builtin; refine wpList_pre rfl _ _ 71 rfl w.heap.size 5 i0 _ 1 Tryd.underlying71 hi0 hz0 hz1 hz2 rfl rfl rfl ⟨g, 0, none⟩ L.length cap (Lib.byteCells L) rfl hle.out hcell.out (byteCells_one L) (by omega) (by unfold maxLen; omega) hbel.size ?_; intro v2 w2 hown2 hgrow)
              rw [hBd.out] at hown2
              have hN := Lib.hid (brow_next hbel hown2 hgrow)
              clear hown2 hgrow
              go_wp2
              go_roundg j
              case measure => omega
              case rel => exact ⟨C :: L, R, by first | rfl | rw [e3], hRb1, hRb2, hDn, hN⟩
    · have hL0 : L ≠ [] := fun e => hg (.inl e)
      obtain rfl : r = 0 := Decidable.byContradiction fun e => hg (.inr e)
      have hdd := Lib.hid (hD.out.done hL0)
      have hll := hD.out.len
      have e0 : ((L.length : Int) == 0) = false := by simpa using hL0
      have hown' := Lib.hid hown
      have hbel' := Lib.hid hbel
      by_cases hn0 : n < 0
      · have hR := Lib.hid (show Lib.itoa n = 45 :: L by rw [itoa_neg hn0, hdd.out])
        have hcell := Lib.hid (brow_cells hown)
        have hle := Lib.hid (Lib.byteCells_length L)
        go_wp2_with (at_builtin; refine wpList_pre rfl _ _ 71 rfl w.heap.size 5 i0 _ 1 Tryd.underlying71 hi0 hz0 hz1 hz2 rfl rfl rfl ⟨g, 0, none⟩ L.length cap (Lib.byteCells L) rfl hle.out hcell.out (byteCells_one L) (by omega) (by unfold maxLen; omega) hbel'.out.size ?_; intro v2 w2 hown2 hgrow)
        have hN := brow_next (c := 45) hbel'.out hown2 hgrow
        obtain ⟨M, hM⟩ : ∃ M, M = (45 : UInt8) :: L := ⟨_, rfl⟩
        have hR2 := Lib.hid (hR.out.trans hM.symm)
        rw [← hM] at hN
        clear hM
        obtain ⟨g2, cap2, rfl, ho2, hb2⟩ := hN
        have hcv := conv_row ho2
        have hb2' := Lib.hid hb2
        clear hown2 hgrow ho2 hb2
        simp only [hcv, Result.andThen]
        go_wp2
        go_ret
        exact ⟨by rw [hR2.out]; rfl, hb2'.out⟩
      · have hR := Lib.hid (show Lib.itoa n = L by rw [itoa_nonneg hn0, hdd.out])
        have hcv := conv_row hown
        clear hown hbel
        go_wp2
        go_ret
        exact ⟨by rw [hR.out]; rfl, hbel'.out⟩
end Go.Proofs.YtianaalokclklaaDoor
