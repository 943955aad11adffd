/-
  CONTRACTS: the eight digits of a number's bits.
-/
import Derived.Test.YtianaalokclklaaDoorT8
import Derived.Test.YtianaalokclklaaDoorT4
set_option linter.unusedSimpArgs false
set_option linter.unusedVariables false
namespace Go.Proofs.YtianaalokclklaaDoor
open Go.RowKit Go.Fl

theorem bytes_snoc (c : UInt8) (L : List UInt8) : Lib.byteCells (L ++ [c]) = Lib.byteCells L ++ [.int .u8 (c.toNat : Int)] := by unfold Lib.byteCells; simp
theorem brow_app {w wr w2 : World} {L : List UInt8} {c : UInt8} {o : Obj} {v v2 : Value} (hB : BRow w wr v L) (hown : w2.ownsRow w.heap.size 5 1 v2 (L.length + 1) (Lib.byteCells L ++ [.int .u8 (c.toNat : Int)])) (hg : (wr.alloc o).grownBy w2 v.ownBlock) : BRow w w2 v2 (L ++ [c]) := by
  obtain ⟨g, cap, rfl, h1, h2⟩ := hB
  rw [← bytes_snoc] at hown
  obtain ⟨g2, cap2, rfl⟩ := own_succ hown
  have hs := h2.size
  have hb : Below w.heap.size (wr.alloc o) w2 := (Below.refl _ _).grown hg (by simp; omega) (own_row h1)
  have e : (L ++ [c]).length = L.length + 1 := by simp
  exact ⟨g2, cap2, by rw [e], by rw [e]; exact hown, Below.trans (h2.alloc o) hb⟩
theorem i64_and15 (n : Int) : bits .and .i64 n 15 = n % 16 := by
  have h15 : (BitVec.ofInt 64 15).toNat = 2 ^ 4 - 1 := by decide
  have key : (BitVec.ofInt 64 n &&& BitVec.ofInt 64 15).toNat = (n % ((2 ^ 64 : Nat) : Int)).toNat % 2 ^ 4 := by
    rw [BitVec.toNat_and, BitVec.toNat_ofInt, h15, Nat.and_two_pow_sub_one_eq_mod]
  show IntKind.i64.wrap ((BitVec.ofInt 64 n &&& BitVec.ofInt 64 15).toNat : Nat) = n % 16
  rw [key, IntKind.wrap_i64]
  omega
theorem dig16 {d : Nat} (hd : d < 16) (h : d < (⟨#[48, 49, 50, 51, 52, 53, 54, 55, 56, 57, 97, 98, 99, 100, 101, 102]⟩ : ByteArray).size) :
    ((⟨#[48, 49, 50, 51, 52, 53, 54, 55, 56, 57, 97, 98, 99, 100, 101, 102]⟩ : ByteArray)[d]'h).toNat = (hexDg d).toNat := byte_at (l := hexTab) (k := d) (show d < 16 from hd)
theorem is32_lt {x X : Nat} (h : Is .f32 x X) : X < 4294967296 := by
  have h1 := is32_le h
  cases hn : fne .f32 X X with
  | true => rw [is_nan h hn]; decide +kernel
  | false => rw [← is_num h hn]; omega
set_option maxRecDepth 100000 in
set_option maxHeartbeats 2000000 in
theorem l01Hex_any (w : World) (x X : Nat) (hx : Is .f32 x X) : Calls Tryd.prog 60 #[.float .f32 x] w (StRet (hex8 X) w) := by
  have hX := is32_lt hx
  obtain ⟨i0, hi0, hz0, hz1, hz2⟩ := info_parts infoU8
  replace hx := Lib.hid hx
  go_enter Tryd.func60, Tryd.ntmps60
  go_wp2_with fail
  refine (l01Bits_any x X hx.out w).mono ?_
  rintro e w1 ⟨rfl, rfl⟩
  go_wp2_with fail
  go_loopw [4, 5] (fun v iv wr => ∃ (t j : Nat) (i : Int) (L : List UInt8), t + 4 * j = 32 ∧ iv = .int .i64 i ∧ i = (t : Int) - 4 ∧ L.length = j ∧ Hid (L = hexK j (X / 2 ^ t)) ∧ Hid (BRow w wr v L)) (fun _ iv _ => (intOf iv + 4).toNat)
  case atStart => exact ⟨32, 0, 28, [], by omega, rfl, by omega, rfl, Lib.hid rfl, Lib.hid ⟨w.heap.size, 0, rfl, World.ownsRow_made w #[] 0 (Nat.le_refl _) (by unfold maxLen; omega) rfl, (Bel.refl w).alloc _⟩⟩
  case round =>
    obtain ⟨t, j, i, L, ht, rfl, hi, rfl, hE, hS⟩ := hrel
    by_cases h0 : t = 0
    · subst h0
      obtain rfl : i = -4 := by omega
      have h8 := Lib.hid (show L.length = 8 by omega)
      clear hi ht
      obtain ⟨g, cap, rfl, hown, hbel⟩ := hS.out
      have hcv := conv_row hown
      have hbel' := Lib.hid hbel
      have hE2 := Lib.hid (show L = hex8 X by rw [hE.out, h8.out]; simp)
      clear hown hbel
      go_wp2_with fail
      go_ret
      exact ⟨by rw [← hE2.out]; rfl, hbel'.out⟩
    · obtain ⟨s, rfl⟩ : ∃ s, t = s + 4 := ⟨t - 4, by omega⟩
      obtain rfl : i = (s : Int) := by omega
      have hs28 : s ≤ 28 := by omega
      clear hi
      have hl8 : L.length ≤ 8 := by omega
      have ht' := Lib.hid ht
      clear ht
      obtain ⟨d, hd⟩ : ∃ d, d = X / 2 ^ s % 16 := ⟨_, rfl⟩
      have hd16 : d < 16 := by omega
      have e1 : bits .and .i64 ((X : Int) / 2 ^ s) 15 = (d : Int) := by
        rw [show ((X : Int) / 2 ^ s) = ((X / 2 ^ s : Nat) : Int) by simp, i64_and15, hd]
        omega
      have hN := Lib.hid (show L ++ [hexDg d] = hexK (L.length + 1) (X / 2 ^ s) by rw [hexK_next, ← hE.out, hd])
      replace hd := Lib.hid hd
      obtain ⟨g, cap, rfl, hown, hbel⟩ := hS.out
      have hbs := hbel.size
      go_wp2_with (at_builtin; refine wpList_app1 rfl _ _ 71 rfl w.heap.size 5 i0 _ 1 Tryd.underlying71 hi0 hz0 hz1 hz2 rfl (.slice (some ⟨g, 0, none⟩) L.length cap) L.length _ rfl hown rfl rfl (by omega) (by unfold maxLen; omega) hbs ?_; intro v2 w3 hown2 hgrow)
      rw [dig16 hd16] at hown2
      have hB2 := Lib.hid (brow_app hS.out hown2 hgrow)
      clear hown2 hgrow
      refine ⟨⟨s, L.length + 1, (s : Int) - 4, L ++ [hexDg d], by have := ht'.out; omega, rfl, rfl, by simp, hN, hB2⟩, ?_⟩
      show ((s : Int) - 4 + 4).toNat < ((s : Int) + 4).toNat
      omega
set_option maxHeartbeats 1000000 in
theorem digits_any (w : World) (x X : Nat) (hx : Is .f32 x X) (ht : Tz w) : Calls Tryd.prog 43 #[.float .f32 x] w (StRet (hex8 X) w) := by
  have hX := is32_lt hx
  have hl := hexD_len 8 (by omega) (show X < 16 ^ 8 from hX)
  have hp := hex_pad 8 (by omega) (show X < 16 ^ 8 from hX)
  obtain ⟨D, hD⟩ : ∃ D, D = hexD X := ⟨_, rfl⟩
  rw [← hD] at hl hp
  obtain ⟨n, hn⟩ : ∃ n, n = D.length := ⟨_, rfl⟩
  obtain ⟨c, hc⟩ : ∃ c, c = 8 - n := ⟨_, rfl⟩
  rw [← hn] at hl hp
  rw [← hc] at hp
  have hsz : (⟨D.toArray⟩ : ByteArray).size = n := by rw [size_at, hn]
  have hrl : (List.replicate c (48 : UInt8)).length = c := by simp
  have hDn : D.length = n := hn.symm
  have hRp := Tryd.strings_Repeat ⟨#[48]⟩ c w
  replace hx := Lib.hid hx
  replace ht := Lib.hid ht
  replace hD := Lib.hid hD
  replace hp := Lib.hid hp
  clear hn hRp
  have hc8 : c ≤ 8 := by omega
  have hcI : (8 : Int) - (n : Int) = (c : Int) := by omega
  replace hc := Lib.hid hc
  go_enter Tryd.func43, Tryd.ntmps43
  go_wp2_with fail
  refine (iBitsOf_any x X hx.out w).mono ?_
  rintro e w1 ⟨rfl, rfl⟩
  go_wp2_with fail
  refine (fmt16 w X hX ht.out).mono ?_
  rintro e w1 ⟨rfl, hB⟩
  rw [← hD.out]
  replace hB := Lib.hid hB
  go_wp2_with fail
  have hR := Tryd.strings_Repeat ⟨#[48]⟩ c w1 (by omega) (by show 1 * c ≤ _; omega)
  rw [show (⟨#[48]⟩ : ByteArray).data.toList = [48] from rfl, repl48] at hR
  refine hR.mono ?_
  clear hR
  rintro e w2 ⟨rfl, hB2⟩
  replace hB := Lib.hid (hB.out.trans hB2)
  clear hB2
  go_wp2_with fail
  go_ret
  have e : ((⟨Array.replicate c 48⟩ : ByteArray) ++ ⟨D.toArray⟩) = ⟨(hex8 X).toArray⟩ := by
    rw [show hex8 X = List.replicate c 48 ++ D from hp.out.symm]
    apply ByteArray.ext
    simp
  exact ⟨congrArg (fun b => Ending.returned (.string b)) e, hB.out⟩
end Go.Proofs.YtianaalokclklaaDoor
