/-
  THE LAW 'FnExactNumbersText': its contracts and its walk.
-/
import Derived.Test.YtianaalokclklaaDoorT9
import Derived.Test.YtianaalokclklaaDoorN5
set_option linter.unusedSimpArgs false
set_option linter.unusedVariables false
namespace Go.Proofs.YtianaalokclklaaDoor
open Go.RowKit Go.Fl

abbrev hexs (xs : List Nat) : Nat → List UInt8 := fun i => hex8 (cn .f32 (xs.getD i 0))
set_option maxHeartbeats 1000000 in
theorem l01NText_any (w : World) (ao : Option Addr) (n c : Nat) (xs : List Nat) (hA : FRow w ao n xs) (hm : n ≤ 256) :
    Calls Tryd.prog 42 #[.slice ao n c] w (StRet (txt (hexs xs) n) w) := by
  by_cases hn0 : n = 0
  · subst hn0
    clear hA
    go_enter Tryd.func42, Tryd.ntmps42
    go_wp2_with fail
    go_ret
    exact ⟨rfl, Bel.refl _⟩
  · have hT : txt (hexs xs) n = tx (hexs xs) n := by unfold txt; rw [if_neg hn0]
    rw [hT]
    have hA' := Lib.hid hA
    have hlen := Lib.hid (tx_len (hexs xs) 8 n (fun i hi => Nat.le_of_eq (hexK_len 8 _)))
    obtain ⟨b, off, rfl, hb, hcell⟩ := hA.at0 (by omega)
    have h1 : w.cell? ⟨b, off, none⟩ = some (.float .f32 (xs.getD 0 0)) := hcell 0 (by omega)
    have hcell' := Lib.hid hcell
    clear hA hT hcell
    have his := hA'.out.is (show 0 < n by omega)
    obtain ⟨Z, hZ⟩ : ∃ Z, Z = xs.getD 0 0 := ⟨_, rfl⟩
    have hH := Lib.hid (show hex8 (cn .f32 Z) = hexs xs 0 by rw [hZ])
    rw [← hZ] at h1 his
    replace hZ := Lib.hid hZ
    replace his := Lib.hid his
    go_enter Tryd.func42, Tryd.ntmps42
    go_wp2_with fail
    refine (l01Hex_any _ _ _ his.out).mono ?_
    rintro e w1 ⟨rfl, hB⟩
    rw [hH.out]
    replace hB := Lib.hid hB
    clear hZ his h1 hH
    go_wp2_with fail
    go_loopw [3, 4] (fun s i wr => ∃ k : Nat, 1 ≤ k ∧ k ≤ n ∧ i = .int .i64 k ∧ s = .string ⟨(tx (hexs xs) k).toArray⟩ ∧ Hid (Bel w wr)) (fun _ i _ => n - (intOf i).toNat)
    case atStart => exact ⟨1, Nat.le_refl _, by omega, rfl, rfl, hB⟩
    case round =>
      obtain ⟨k, hk1, hk, rfl, rfl, hbw⟩ := hrel
      by_cases hlt : k < n
      · have h1 := (hbw.out.cell (p := ⟨b, off + k, none⟩) hb).trans (hcell'.out k hlt)
        have his := hA'.out.is hlt
        have hS := Lib.hid (tx_succ (hexs xs) hk1)
        have hl1 := hlen.out k hk
        have hl2 : (hex8 (cn .f32 (xs.getD k 0))).length = 8 := hexK_len 8 _
        obtain ⟨T, hT⟩ : ∃ T, T = tx (hexs xs) k := ⟨_, rfl⟩
        obtain ⟨L, hL⟩ : ∃ L, L = hex8 (cn .f32 (xs.getD k 0)) := ⟨_, rfl⟩
        rw [← hT] at hl1 ⊢
        rw [← hL] at hl2
        obtain ⟨Z, hZ⟩ : ∃ Z, Z = xs.getD k 0 := ⟨_, rfl⟩
        rw [← hZ] at h1 his hL
        replace hT := Lib.hid hT
        replace hL := Lib.hid hL
        replace hZ := Lib.hid hZ
        replace his := Lib.hid his
        have hl3 : T.length ≤ 2304 := by omega
        clear hl1
        go_wp2_with fail
        refine (l01Hex_any _ _ _ his.out).mono ?_
        rintro e w2 ⟨rfl, hB2⟩
        rw [← hL.out]
        replace hbw := Lib.hid (hbw.out.trans hB2)
        clear hB2
        go_wp2_with fail
        refine ⟨⟨k + 1, by omega, by omega, by simp, ?_, hbw⟩, ?_⟩
        · rw [hS.out, ← hT.out, show hexs xs k = L by rw [hL.out, hZ.out]]
          rfl
        · show n - (((k : Nat) : Int) + 1).toNat < n - ((k : Nat) : Int).toNat
          omega
      · go_wp2_with fail
        obtain rfl : k = n := by omega
        go_ret
        exact ⟨rfl, hbw.out⟩
set_option maxRecDepth 100000 in
set_option maxHeartbeats 1000000 in
theorem iNumbersText_any (w : World) (ao : Option Addr) (n c : Nat) (xs : List Nat) (hA : FRow w ao n xs) (hm : n ≤ 1048576) (ht : Tz w) :
    Calls Tryd.prog 18 #[.slice ao n c] w (TRet (decide (n ≤ 256)) (txt (hexs xs) n) w) := by
  have ht' := Lib.hid ht
  have hA' := Lib.hid hA
  clear hA ht
  by_cases h256 : n ≤ 256
  case neg =>
    go_enter Tryd.func18, Tryd.ntmps18
    go_wp2_with fail
    refine bodyPost_ret (v := .tuple #[.string ⟨#[]⟩, .bool false]) (by simp [results, Tryd.results18, go_sem]) rfl ?_
    unfold TRet
    rw [decide_eq_false h256]
    exact ⟨rfl, Bel.refl _⟩
  case pos =>
    have hdT := Lib.hid (decide_eq_true h256)
    have hlen := Lib.hid (tx_len (hexs xs) 8 n (fun i hi => Nat.le_of_eq (hexK_len 8 _)))
    obtain ⟨i0, hi0, hz0, hz1, hz2⟩ := info_parts infoStr
    go_enter Tryd.func18, Tryd.ntmps18
    go_wp2_with fail
    go_loopw [4, 13] (fun v i wr => ∃ k : Nat, k ≤ n ∧ i = .int .i64 k ∧ Hid (LRow w wr v (hexs xs) k)) (fun _ i _ => n - (intOf i).toNat)
    case atStart => exact ⟨0, Nat.zero_le _, rfl, Lib.hid (LRow.start w w _ (Bel.refl _))⟩
    case round =>
      obtain ⟨k, hk, rfl, hS⟩ := hrel
      by_cases hlt : k < n
      · obtain ⟨b, off, rfl, hb, hcell⟩ := hA'.out.at0 (by omega)
        obtain ⟨g, cap, rfl, _, hbel⟩ := hS.out
        have h1 := (hbel.cell (p := ⟨b, off + k, none⟩) hb).trans (hcell k hlt)
        clear hcell
        have his := hA'.out.is hlt
        have ht1 := Lib.hid (tz_bel ht'.out hbel)
        clear hbel
        obtain ⟨Z, hZ⟩ : ∃ Z, Z = xs.getD k 0 := ⟨_, rfl⟩
        have hD := Lib.hid (show hex8 (cn .f32 Z) = hexs xs k by rw [hZ])
        rw [← hZ] at h1 his
        replace hZ := Lib.hid hZ
        replace his := Lib.hid his
        go_wp2_with fail
        refine (digits_any _ _ _ his.out ht1.out).mono ?_
        rintro e w2 ⟨rfl, hB2⟩
        replace hS := Lib.hid (hS.out.bel hB2)
        clear hB2
        rw [hD.out]
        obtain ⟨_, _, hvv, hown, hbel⟩ := hS.out
        cases hvv
        have hbs := hbel.size
        go_wp2_with (at_builtin; refine wpList_app1 rfl _ _ 51 rfl w.heap.size 9 i0 _ 16 Tryd.underlying51 hi0 hz0 hz1 hz2 rfl (.slice (some ⟨g, 0, none⟩) k cap) k _ rfl hown rfl rfl (by omega) (by unfold maxLen; omega) hbs ?_; intro v2 w3 hown2 hgrow)
        have hN := Lib.hid (hS.out.next hown2 hgrow)
        clear hown2 hgrow
        go_wp2_with fail
        refine ⟨⟨k + 1, by omega, by simp, hN⟩, ?_⟩
        show n - (((k : Nat) : Int) + 1).toNat < n - ((k : Nat) : Int).toNat
        omega
      · obtain rfl : k = n := by omega
        obtain ⟨g, cap, rfl, hown, hbel⟩ := hS.out
        obtain ⟨hcc, hgl, hkc⟩ := LRow.cells hown
        have hbel' := Lib.hid hbel
        have hcc' := Lib.hid hcc
        have hll := hlen.out k (Nat.le_refl _)
        have hgl' : g < wr.heap.size := by
          rcases hown.2 with ⟨e1, _⟩ | ⟨g2, cap2, cur, e1, _, e3, _⟩
          · cases e1
          · cases e1; exact (Array.getElem?_eq_some_iff.1 e3).1
        clear hcc hgl hbel hown
        go_wp2_with fail
        refine (joined_any _ g cap k (hexs xs) hcc'.out hgl' (by omega) hkc (by omega)).mono ?_
        rintro e w3 ⟨rfl, hB3⟩
        have hB4 := Lib.hid (hbel'.out.trans hB3)
        clear hB3
        go_wp2_with fail
        refine bodyPost_ret (v := .tuple #[.string ⟨(txt (hexs xs) k).toArray⟩, .bool true]) (by simp [results, Tryd.results18, go_sem]) rfl ?_
        unfold TRet
        rw [hdT.out]
        exact ⟨rfl, hB4.out⟩
theorem sNumbersText_any (w : World) (ao : Option Addr) (n c : Nat) (xs : List Nat) (hA : FRow w ao n xs) (hm : n ≤ 1048576) :
    Calls Tryd.prog 16 #[.slice ao n c] w (TRet (decide (n ≤ 256)) (txt (hexs xs) n) w) := by
  have hA' := Lib.hid hA
  clear hA
  by_cases h256 : n ≤ 256
  case neg =>
    have hdF := Lib.hid (decide_eq_false h256)
    go_enter Tryd.func16, Tryd.ntmps16
    go_wp2_with fail
    refine (l01Few_any ao n c w).mono ?_
    rintro e w' ⟨rfl, rfl⟩
    rw [hdF.out]
    go_wp2_with fail
    refine bodyPost_ret (v := .tuple #[.string ⟨#[]⟩, .bool false]) (by simp [results, Tryd.results16, go_sem]) rfl ?_
    unfold TRet
    rw [hdF.out]
    exact ⟨rfl, Bel.refl _⟩
  case pos =>
    have hdT := Lib.hid (decide_eq_true h256)
    go_enter Tryd.func16, Tryd.ntmps16
    go_wp2_with fail
    refine (l01Few_any ao n c w).mono ?_
    rintro e w' ⟨rfl, rfl⟩
    rw [hdT.out]
    go_wp2_with fail
    refine (l01NText_any _ _ _ _ xs hA'.out h256).mono ?_
    rintro e w' ⟨rfl, hB⟩
    replace hB := Lib.hid hB
    go_wp2_with fail
    refine bodyPost_ret (v := .tuple #[.string ⟨(txt (hexs xs) n).toArray⟩, .bool true]) (by simp [results, Tryd.results16, go_sem]) rfl ?_
    unfold TRet
    rw [hdT.out]
    exact ⟨rfl, hB.out⟩
set_option maxHeartbeats 1000000 in
theorem walkFnExactNumbersText (w : World) (zo : Option Addr) (mz cz : Nat) (xs : List Nat) (hM_z : mz ≤ maxLen) (hR_z : FRow w zo mz xs) (ht : Tz w) :
    Calls Tryd.prog 5 #[.slice zo mz cz] w (fun e w' => e = .returned (.bool true) ∧ Bel w w') := by
  have hM_z' := hM_z
  unfold maxLen at hM_z'
  by_cases hnz : mz ≤ 1048576
  · have hz' := Lib.hid hR_z
    have ht' := Lib.hid ht
    clear hR_z ht
    obtain ⟨B, hBe⟩ : ∃ B, B = decide (mz ≤ 256) := ⟨_, rfl⟩
    obtain ⟨T, hTe⟩ : ∃ T, T = (if B then txt (hexs xs) mz else []) := ⟨_, rfl⟩
    replace hBe := Lib.hid hBe
    replace hTe := Lib.hid hTe
    go_enter Tryd.func5, Tryd.ntmps5
    go_wp2_with fail
    refine (toF32 _ zo mz cz xs hz'.out (by omega)).mono ?_
    rintro e w1 ⟨ao, rfl, hO, hB1⟩
    have hO' := Lib.hid hO
    have hB' := Lib.hid hB1
    clear hO hB1
    go_wp2_with fail
    refine (sNumbersText_any _ ao mz mz xs hO'.out (by omega)).mono ?_
    rintro e w2 ⟨rfl, hB⟩
    rw [← hBe.out, ← hTe.out]
    replace hB' := Lib.hid (hB'.out.trans hB)
    clear hO' hB
    go_wp2_with fail
    refine (toF32 _ zo mz cz xs (hz'.out.bel hB'.out) (by omega)).mono ?_
    rintro e w3 ⟨bo, rfl, hO, hB⟩
    have hO' := Lib.hid hO
    replace hB' := Lib.hid (hB'.out.trans hB)
    clear hO hB
    go_wp2_with fail
    refine (iNumbersText_any _ bo mz mz xs hO'.out (by omega) (tz_bel ht'.out hB'.out)).mono ?_
    rintro e w4 ⟨rfl, hB⟩
    rw [← hBe.out, ← hTe.out]
    replace hO' := Lib.hid (hO'.out.bel hB)
    replace hB' := Lib.hid (hB'.out.trans hB)
    clear hB hBe hTe
    go_wp2_with fail
    refine (toF32 _ zo mz cz xs (hz'.out.bel hB'.out) (by omega)).mono ?_
    rintro e w5 ⟨co, rfl, hP, hB⟩
    replace hO' := Lib.hid (hO'.out.bel hB)
    have hP' := Lib.hid hP
    replace hB' := Lib.hid (hB'.out.trans hB)
    clear hB hP
    go_wp2_with fail
    refine (eqF32 _ bo co mz mz mz xs xs hO'.out hP'.out (by omega) (fun _ => rfl)).mono ?_
    rintro e w6 ⟨rfl, hB⟩
    replace hB' : Hid (Bel w w6) := Lib.hid (hB'.out.trans (hB.below _))
    clear hB
    go_wp2_with fail
    go_ret
    exact ⟨rfl, hB'.out⟩
  · go_enter Tryd.func5, Tryd.ntmps5
    go_wp2_with fail
    go_ret
    exact ⟨rfl, Bel.refl _⟩
theorem gDB : Tryd.prog.globalNamed "math/bits.deBruijn64tab" = some 6 := by kernel_rfl
theorem gDBt : (Tryd.prog.globals[6]?).map (·.type) = some 139 := by kernel_rfl
def dbTab : List Int := [0, 1, 56, 2, 57, 49, 28, 3, 61, 58, 42, 50, 38, 29, 17, 4, 62, 47, 59, 36, 45, 43, 51, 22, 53, 39, 33, 30, 24, 18, 12, 5, 63, 55, 48, 27, 60, 41, 37, 16, 46, 35, 44, 21, 52, 32, 23, 11, 54, 26, 40, 15, 34, 20, 31, 10, 25, 14, 19, 9, 13, 8, 7, 6]
theorem tz_of {r : List (String × DataW Unit)} {W : World} (h : laidMet Tryd.prog (("math/bits.deBruijn64tab", Rows.laid_math_bits_deBruijn64tab) :: r) W) : Tz W := by
  have hT := Lib.tabIs_of_head (k := .u8) (zs := dbTab) (n := 64) gDB gDBt Tryd.underlying139 Tryd.underlying5 (by kernel_rfl) (by kernel_rfl) h
  exact hT.cell gDB 15 (by decide)
theorem factsFnExactNumbersText {W : World} (h : laidMet Tryd.prog Rows.fnExactNumbersTextRow.laid W) : Tz W := tz_of h.tail
end Go.Proofs.YtianaalokclklaaDoor
