/-
  CONTRACTS: the eight digits of a number read, the program's; a text parted at its commas.
-/
import Derived.Test.YtianaalokclklaaDoorT11
import Derived.Test.YtianaalokclklaaDoorT7
set_option linter.unusedSimpArgs false
set_option linter.unusedVariables false
namespace Go.Proofs.YtianaalokclklaaDoor
open Go.RowKit Go.Fl

/-- what the library's reading at base 16 and 32 bits gives -/
def PBRet (l : List UInt8) (w : World) (e : Ending) (w' : World) : Prop := ∃ (u : Nat) (er : Value), e = .returned (.tuple #[.int .u64 (u : Int), er]) ∧ u ≤ 18446744073709551615 ∧
  (er = .nilIface ∨ ∃ t p, er = .iface t p) ∧ (∀ X, X < 4294967296 → l = hex8 X → u = X ∧ er = .nilIface) ∧ Bel w w'
set_option maxHeartbeats 1000000 in
theorem parseU_any (w : World) (l : List UInt8) (hl : l.length ≤ 1048576) (he : Errs w) : Calls Tryd.prog 69 #[.string ⟨l.toArray⟩, .int .i64 16, .int .i64 32] w (PBRet l w) := by
  have hsz := size_at l
  have he' := Lib.hid he
  have hl' := Lib.hid hl
  clear he hl
  go_enter Tryd.func69, Tryd.ntmps69
  go_wp2_with fail
  refine (pu_any w l hl'.out).mono ?_
  rintro e w1 ⟨u, er, rfl, hu, her, hX, hB⟩
  have hu' := Lib.hid hu
  have hX' := Lib.hid hX
  have hB' := Lib.hid hB
  have he1 := Lib.hid (errs_bel he'.out hB)
  clear hu hX hB
  rcases her with rfl | her
  · go_wp2_with fail
    refine bodyPost_ret (v := .tuple #[.int .u64 (u : Int), .nilIface]) (by simp [results, Tryd.results69, go_sem]) rfl ?_
    exact ⟨u, _, rfl, hu'.out, .inl rfl, fun X hX e => ⟨(hX'.out X hX e).1, rfl⟩, hB'.out⟩
  have hbad := Lib.hid (show ∀ X, X < 4294967296 → l = hex8 X → False from fun X hX e => by
    have h := (hX'.out X hX e).2
    rcases her with rfl | rfl <;> cases h)
  clear hX'
  rcases her with rfl | rfl
  · go_wp2_with fail
    obtain ⟨_, t, p, h2⟩ := he1.out
    refine (Tryd.strconv_toError_range _ _ _ _ (.iface t p) w1 (by rw [hsz]; have := hl'.out; omega) (by have h0 := World.var?_cell gER h2 0; simpa using h0) (.inr ⟨_, _, rfl⟩)).mono ?_
    clear h2
    rintro e w2 ⟨N, rfl, _, _, hB2⟩
    replace hB' := Lib.hid (hB'.out.trans hB2)
    clear hB2
    go_wp2_with fail
    refine bodyPost_ret (v := .tuple #[.int .u64 (u : Int), .iface 106 (.pointer (some ⟨N, 0, none⟩))]) (by simp [results, Tryd.results69, go_sem]) rfl ?_
    exact ⟨u, _, rfl, hu'.out, .inr ⟨_, _, rfl⟩, fun X hX e => (hbad.out X hX e).elim, hB'.out⟩
  · go_wp2_with fail
    obtain ⟨⟨t, p, h2⟩, _⟩ := he1.out
    refine (Tryd.strconv_toError_syntax _ _ _ _ (.iface t p) w1 (by rw [hsz]; have := hl'.out; omega) (by have h0 := World.var?_cell gES h2 0; simpa using h0) (.inr ⟨_, _, rfl⟩)).mono ?_
    clear h2
    rintro e w2 ⟨N, rfl, _, _, hB2⟩
    replace hB' := Lib.hid (hB'.out.trans hB2)
    clear hB2
    go_wp2_with fail
    refine bodyPost_ret (v := .tuple #[.int .u64 (u : Int), .iface 106 (.pointer (some ⟨N, 0, none⟩))]) (by simp [results, Tryd.results69, go_sem]) rfl ?_
    exact ⟨u, _, rfl, hu'.out, .inr ⟨_, _, rfl⟩, fun X hX e => (hbad.out X hX e).elim, hB'.out⟩
/-- what a reading of eight digits gives -/
def RDRet (l : List UInt8) (w : World) (e : Ending) (w' : World) : Prop := ∃ r X, e = .returned (.tuple #[.float .f32 r, .bool (hexB l)]) ∧ Is .f32 r X ∧ (hexB l = true → X = valH l) ∧ Bel w w'
theorem hexB_hex8 {l : List UInt8} {m : Nat} (hm : m < 4294967296) : hex8 (cn .f32 m) = l → hexB l = true ∧ cn .f32 m = valH l := by
  intro h
  have hc : cn .f32 m < 4294967296 := is32_lt (⟨by rw [w32]; exact hm, rfl⟩ : Is .f32 m (cn .f32 m))
  refine ⟨hexB_iff.2 ⟨_, hc, cn_cn .f32 m, h.symm⟩, ?_⟩
  rw [← h, valH_hex8 hc]
set_option maxHeartbeats 1000000 in
theorem readDigits_any (w : World) (l : List UInt8) (hl : l.length ≤ 1048576) (he : Errs w) (ht : Tz w) : Calls Tryd.prog 52 #[.string ⟨l.toArray⟩] w (RDRet l w) := by
  have he' := Lib.hid he
  have ht' := Lib.hid ht
  have hl' := Lib.hid hl
  clear he ht hl
  go_enter Tryd.func52, Tryd.ntmps52
  go_wp2_with fail
  refine (parseU_any w l hl'.out he'.out).mono ?_
  rintro e w1 ⟨u, er, rfl, hu, her, hX, hB⟩
  have hX' := Lib.hid hX
  have hB' := Lib.hid hB
  have ht1 := Lib.hid (tz_bel ht'.out hB)
  clear hX hB
  obtain ⟨m, hm⟩ : ∃ m, m = u % 4294967296 := ⟨_, rfl⟩
  have hm32 : m < 4294967296 := by omega
  have hw : IntKind.u32.wrap (u : Int) = (m : Int) := by rw [IntKind.wrap_u32]; omega
  have hmu := Lib.hid (show u < 4294967296 → m = u by omega)
  have hi := Lib.hid (show Is .f32 m (cn .f32 m) from ⟨by rw [w32]; exact hm32, rfl⟩)
  have hm' := Lib.hid hm32
  clear hm hm32
  rcases her with rfl | ⟨t, p, rfl⟩
  · cases hr : (hex8 (cn .f32 m) == l) with
    | false =>
      have hcmp : (ByteArray.toList ⟨(hex8 (cn .f32 m)).toArray⟩ == ByteArray.toList ⟨l.toArray⟩) = false := by rw [toList_at, toList_at]; exact hr
      have hcmp2 : ¬ hex8 (cn .f32 m) = l := by simpa using hr
      have hd := Lib.hid (show hexB l = false by
        cases hd : hexB l with
        | false => rfl
        | true =>
          obtain ⟨X, h1, h2, h3⟩ := hexB_iff.1 hd
          obtain ⟨g1, _⟩ := hX'.out X h1 h3
          have g2 := hmu.out (by omega)
          exact absurd (by rw [g2, g1, h2, h3]) hcmp2)
      go_wp2_with fail
      refine (digits_any _ _ _ hi.out ht1.out).mono ?_
      rintro e w2 ⟨rfl, hB2⟩
      replace hB' := Lib.hid (hB'.out.trans hB2)
      clear hB2
      go_wp2_with fail
      refine bodyPost_ret (v := .tuple #[.float .f32 m, .bool false]) (by simp [results, Tryd.results52, go_sem]) rfl ?_
      exact ⟨m, _, by rw [hd.out], hi.out, (fun e => by rw [hd.out] at e; cases e), hB'.out⟩
    | true =>
      have hcmp2 : hex8 (cn .f32 m) = l := by simpa using hr
      obtain ⟨d1, d2⟩ := hexB_hex8 hm'.out hcmp2
      replace d1 := Lib.hid d1
      replace d2 := Lib.hid d2
      replace hcmp2 := Lib.hid hcmp2
      clear hr
      go_wp2_with fail
      refine (digits_any _ _ _ hi.out ht1.out).mono ?_
      rintro e w2 ⟨rfl, hB2⟩
      rw [hcmp2.out]
      replace hB' := Lib.hid (hB'.out.trans hB2)
      clear hB2
      go_wp2_with fail
      refine bodyPost_ret (v := .tuple #[.float .f32 m, .bool true]) (by simp [results, Tryd.results52, go_sem]) rfl ?_
      exact ⟨m, _, by rw [d1.out], hi.out, fun _ => d2.out, hB'.out⟩
  · have hd := Lib.hid (show hexB l = false by
      cases hd : hexB l with
      | false => rfl
      | true =>
        obtain ⟨X, h1, h2, h3⟩ := hexB_iff.1 hd
        have := (hX'.out X h1 h3).2
        cases this)
    go_wp2_with fail
    refine bodyPost_ret (v := .tuple #[.float .f32 m, .bool false]) (by simp [results, Tryd.results52, go_sem]) rfl ?_
    exact ⟨m, _, by rw [hd.out], hi.out, (fun e => by rw [hd.out] at e; cases e), hB'.out⟩
/-- a text parted at its commas -/
def APRet (l : List UInt8) (w : World) (e : Ending) (w' : World) : Prop := ∃ g cs, e = .returned (.tuple #[.slice (some ⟨g, 0, none⟩) (pcs l).length (pcs l).length, .bool (decide ((pcs l).length ≤ 256))]) ∧ PBlk w' g (pcs l).length (pieceN l) cs ∧ Bel w w'
theorem apart_none (w : World) : Calls Tryd.prog 51 #[.string ⟨#[110, 111, 110, 101]⟩] w (ERet (.tuple #[.slice none 0 0, .bool true]) w) := by
  go_enter Tryd.func51, Tryd.ntmps51
  go_wp2_with fail
  refine bodyPost_ret (v := .tuple #[.slice none 0 0, .bool true]) (by simp [results, Tryd.results51, go_sem]) rfl ?_
  exact ⟨rfl, rfl⟩
theorem apart_any (w : World) (l : List UInt8) (hl : l.length ≤ 1048576) (hM : MaxL w) (hq : noneB l = false) : Calls Tryd.prog 51 #[.string ⟨l.toArray⟩] w (APRet l w) := by
  have hM' := Lib.hid hM
  have hcmp : (l == [110, 111, 110, 101]) = false := hq
  have hcmp2 : ¬ l = [110, 111, 110, 101] := by unfold noneB at hq; simpa using hq
  clear hM hq
  have hl' := Lib.hid hl
  obtain ⟨N, hN⟩ : ∃ N, N = (pcs l).length := ⟨_, rfl⟩
  have hNl : N ≤ 1048577 := by rw [hN]; exact Nat.le_trans (pc_len 44 l []) (by omega)
  replace hN := Lib.hid hN
  clear hl
  by_cases h256 : N ≤ 256
  · have hd := Lib.hid (decide_eq_true h256)
    go_enter Tryd.func51, Tryd.ntmps51
    go_wp2_with fail
    refine (split_any _ l hl'.out hM'.out).mono ?_
    rintro e w1 ⟨cs, rfl, hPB, hB1⟩
    rw [← hN.out] at hPB ⊢
    replace hPB := Lib.hid hPB
    replace hB1 := Lib.hid hB1
    go_wp2_with fail
    refine bodyPost_ret (v := .tuple #[.slice (some ⟨w.heap.size, 0, none⟩) N N, .bool true]) (by simp [results, Tryd.results51, go_sem]; omega) rfl ?_
    unfold APRet
    rw [← hN.out, hd.out]
    exact ⟨_, cs, rfl, hPB.out, hB1.out⟩
  · have hd := Lib.hid (decide_eq_false h256)
    go_enter Tryd.func51, Tryd.ntmps51
    go_wp2_with fail
    refine (split_any _ l hl'.out hM'.out).mono ?_
    rintro e w1 ⟨cs, rfl, hPB, hB1⟩
    rw [← hN.out] at hPB ⊢
    replace hPB := Lib.hid hPB
    replace hB1 := Lib.hid hB1
    go_wp2_with fail
    refine bodyPost_ret (v := .tuple #[.slice (some ⟨w.heap.size, 0, none⟩) N N, .bool false]) (by simp [results, Tryd.results51, go_sem]; omega) rfl ?_
    unfold APRet
    rw [← hN.out, hd.out]
    exact ⟨_, cs, rfl, hPB.out, hB1.out⟩
end Go.Proofs.YtianaalokclklaaDoor
