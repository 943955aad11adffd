/-
  CONTRACTS: a number's digits at base 16.
-/
import Derived.Test.YtianaalokclklaaDoorT5
import Derived.Test.YtianaalokclklaaDoorN1
import Derived.Test.YtianaalokclklaaDoorHx
import Derived.Laws.BitsAllLaws
set_option linter.unusedSimpArgs false
set_option linter.unusedVariables false
namespace Go.Proofs.YtianaalokclklaaDoor
open Go.RowKit Go.Fl

/-- a value of the library's table -/
def Tz (w : World) : Prop := w.cell? ⟨6, 15, none⟩ = some (.int .u8 4)
theorem tz_bel {w w' : World} (h : Tz w) (hb : Bel w w') : Tz w' := (hb.cell (lt_of_cell h)).trans h
theorem pow2_any (w : World) : Calls Tryd.prog 95 #[.int .i64 16] w (ERet (.bool true) w) := by
  go_enter Tryd.func95, Tryd.ntmps95
  go_wp2_with fail
  go_ret
  exact ⟨rfl, rfl⟩
theorem tz64_any (w : World) (h : Tz w) : Calls Tryd.prog 112 #[.int .u64 16] w (ERet (.int .i64 4) w) := by
  have h1 := h
  unfold Tz at h1
  have e1 : IntKind.u64.wrap (-16) = 18446744073709551600 := by kernel_rfl
  have e2 : bits .and .u64 16 18446744073709551600 = 16 := by kernel_rfl
  have e3 : IntKind.u64.wrap (16 * 285870213051353865) = 4573923408821661840 := by kernel_rfl
  have e4 : IntKind.u64.wrap 4573923408821661840 = 4573923408821661840 := by kernel_rfl
  go_enter Tryd.func112, Tryd.ntmps112
  go_wp2_with fail
  go_ret
  exact ⟨rfl, rfl⟩
theorem tz_any (w : World) (h : Tz w) : Calls Tryd.prog 96 #[.int .u64 16] w (ERet (.int .i64 4) w) := by
  go_enter Tryd.func96, Tryd.ntmps96
  go_wp2_with fail
  refine (tz64_any w h).mono ?_
  rintro e w' ⟨rfl, rfl⟩
  go_wp2_with fail
  go_ret
  exact ⟨rfl, rfl⟩
def tab36 : List UInt8 := [48, 49, 50, 51, 52, 53, 54, 55, 56, 57, 97, 98, 99, 100, 101, 102, 103, 104, 105, 106, 107, 108, 109, 110, 111, 112, 113, 114, 115, 116, 117, 118, 119, 120, 121, 122]
theorem tab_same : ∀ d : Fin 16, tab36.getD d.val 0 = hexTab.getD d.val 0 := by decide
theorem dig36 {d : Nat} (hd : d < 16) (h : d < (⟨#[48, 49, 50, 51, 52, 53, 54, 55, 56, 57, 97, 98, 99, 100, 101, 102, 103, 104, 105, 106, 107, 108, 109, 110, 111, 112, 113, 114, 115, 116, 117, 118, 119, 120, 121, 122]⟩ : ByteArray).size) :
    ((⟨#[48, 49, 50, 51, 52, 53, 54, 55, 56, 57, 97, 98, 99, 100, 101, 102, 103, 104, 105, 106, 107, 108, 109, 110, 111, 112, 113, 114, 115, 116, 117, 118, 119, 120, 121, 122]⟩ : ByteArray)[d]'h).toNat = (hexDg d).toNat := by
  have h1 := byte_at (l := tab36) (k := d) (show d < 36 by omega)
  refine Eq.trans h1 ?_
  rw [tab_same ⟨d, hd⟩]
  rfl
theorem slice65 (w' : World) (b q : Nat) (hq : q ≤ 64) : (Instr.sliceAt 114 (.pointer (some ⟨b, 0, none⟩)) (some (.int .i64 (q : Int))) none none).run Tryd.prog w' = .ok (.slice (some ⟨b, q, none⟩) (65 - q) (65 - q)) w' := by
  have h1 : Tryd.prog.arrayLen 114 = 65 := by kernel_rfl
  have h2 : Tryd.prog.elem 114 = 5 := by kernel_rfl
  rw [run_sliceAt_array_l (P := Tryd.prog) w' 114 ⟨b, 0, none⟩ (by rw [h1, h2]; exact Tryd.underlying114) .i64 (q : Int) (by omega) (by rw [h1]; omega), h1, h2]
  have h3 : ¬ 65 = q := by omega
  simp [slicedAt, Result.andThen, Addr.add, go_sem, h3]
  exact fun e => e.symm
theorem zero65 : Tryd.zeroCells114.size = 65 := by kernel_rfl
set_option maxRecDepth 100000 in
set_option maxHeartbeats 2000000 in
theorem formatBits_any (w : World) (n : Nat) (hn : n < 4294967296) (h : Tz w) :
    Calls Tryd.prog 75 #[.slice none 0 0, .int .u64 (n : Int), .int .i64 16, .bool false, .bool false] w (fun e w' => e = .returned (.tuple #[.slice none 0 0, .string ⟨(hexD n).toArray⟩]) ∧ Bel w w') := by
  have hz := Lib.hid (tz_bel h ((Bel.refl w).alloc (.cells Tryd.zeroCells114 114)))
  have hS := Lib.hid (show HSt w (w.alloc (.cells Tryd.zeroCells114 114)) 114 65 [] from ⟨(Bel.refl w).alloc _, _, heap_alloc_new w _, zero65, fun j hj => absurd hj (by simp)⟩)
  have hI := Lib.hid (HInv.start hn)
  clear h
  go_enter Tryd.func75, Tryd.ntmps75
  go_wp2_with fail
  refine (pow2_any _).mono ?_
  rintro e w1 ⟨rfl, rfl⟩
  go_wp2_with fail
  refine (tz_any _ hz.out).mono ?_
  rintro e w1 ⟨rfl, rfl⟩
  go_wp2_with fail
  go_loopw [1, 13] (fun u iv wr => ∃ (m p : Nat) (L : List UInt8), u = .int .u64 (m : Int) ∧ iv = .int .i64 (p : Int) ∧ p + L.length = 65 ∧ m < 4294967296 ∧ Hid (HInv n L m) ∧ Hid (HSt w wr 114 p L)) (fun u _ _ => (intOf u).toNat)
  case atStart => exact ⟨n, 65, [], rfl, rfl, rfl, hn, hI, hS⟩
  case round =>
    obtain ⟨m, p, L, rfl, rfl, hp, hm, hI, hS⟩ := hrel
    have hlen := hI.out.len
    obtain ⟨q, rfl⟩ : ∃ q, p = q + 1 := ⟨p - 1, by omega⟩
    obtain ⟨v, hv⟩ := hS.out.cell (j := q) (by omega)
    have hth := hS.out.thaw q
    by_cases h16 : m < 16
    · have hD := Lib.hid (hI.out.done h16)
      have hN := hS.out.next (by omega) (hexDg m)
      have hcv := run_convert_bytes_back (P := Tryd.prog) _ 71 9 5 ⟨w.heap.size, q, none⟩ (65 - q) (hexDg m :: L) Tryd.underlying71 Tryd.underlying5 Tryd.underlying9 hN.bytes
      rw [show (hexDg m :: L).length = 65 - q by simp; omega, ← hD.out] at hcv
      have hbel := Lib.hid hN.bel
      replace hcv := Lib.hid hcv
      have hsl := fun w' => slice65 w' w.heap.size q (by omega)
      clear hN
      go_wp2_with fail
      rw [dig36 h16]
      simp only [hcv.out, Result.andThen]
      go_wp2_with fail
      refine bodyPost_ret (v := .tuple #[.slice none 0 0, .string ⟨(hexD n).toArray⟩]) (by simp [results, Tryd.results75, go_sem]) rfl ?_
      exact ⟨rfl, hbel.out⟩
    · have e1 : bits .and .u64 (m : Int) 15 = ((m % 16 : Nat) : Int) := by
        have := u64_and_nat m 15 (by omega) (by omega)
        rw [show (15 : Nat) = 2 ^ 4 - 1 from rfl, Nat.and_two_pow_sub_one_eq_mod] at this
        exact this
      have hd16 : m % 16 < 16 := by omega
      go_wp2_with fail
      refine ⟨⟨m / 16, q, hexDg (m % 16) :: L, by simp, rfl, by simp; omega, by omega, Lib.hid (hI.out.next h16), Lib.hid ?_⟩, ?_⟩
      · rw [dig36 hd16]
        exact hS.out.next (by omega) _
      · show (((m : Nat) : Int) / 16).toNat < ((m : Nat) : Int).toNat
        omega
theorem fmt16i (w : World) (n : Nat) (hn : n < 4294967296) (h : Tz w) : Calls Tryd.prog 55 #[.int .i64 (n : Int), .int .i64 16] w (StRet (hexD n) w) := by
  go_enter Tryd.func55, Tryd.ntmps55
  go_wp2_with fail
  refine (formatBits_any w n hn h).mono ?_
  rintro e w' ⟨rfl, hB⟩
  replace hB := Lib.hid hB
  go_wp2_with fail
  go_ret
  exact ⟨rfl, hB.out⟩
theorem fmt16 (w : World) (n : Nat) (hn : n < 4294967296) (h : Tz w) : Calls Tryd.prog 36 #[.int .i64 (n : Int), .int .i64 16] w (StRet (hexD n) w) := by
  go_enter Tryd.func36, Tryd.ntmps36
  go_wp2_with fail
  refine (fmt16i w n hn h).mono ?_
  rintro e w' ⟨rfl, hB⟩
  replace hB := Lib.hid hB
  go_wp2_with fail
  go_ret
  exact ⟨rfl, hB.out⟩
end Go.Proofs.YtianaalokclklaaDoor
