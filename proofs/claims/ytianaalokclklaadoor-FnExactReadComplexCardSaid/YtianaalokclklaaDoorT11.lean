/-
  CONTRACTS: a number at base 16 read, the library's.
-/
import Derived.Test.YtianaalokclklaaDoorT9
import Derived.Test.YtianaalokclklaaDoorHr
import Derived.Lib.ConvBytes
set_option linter.unusedSimpArgs false
set_option linter.unusedVariables false
namespace Go.Proofs.YtianaalokclklaaDoor
open Go.RowKit Go.Fl

/-- a letter made small -/
def lo (B : Nat) : Nat := B ||| 32
theorem lo_lt {B : Nat} (h : B < 256) : lo B < 256 := Nat.or_lt_two_pow (n := 8) h (by decide)
theorem lo_same : ∀ d : Fin 6, lo (97 + d.val) = 97 + d.val := by decide
theorem lower_any (w : World) (B : Nat) (h : B < 256) : Calls Tryd.prog 102 #[.int .u8 (B : Int)] w (ERet (.int .u8 (lo B : Int)) w) := by
  have e1 : bits .or .u8 (B : Int) 32 = (lo B : Int) := u8_or_nat B 32 h (by decide)
  go_enter Tryd.func102, Tryd.ntmps102
  go_wp2_with fail
  go_ret
  exact ⟨rfl, rfl⟩
def PInv (l : List UInt8) (k a : Nat) : Prop := ∀ X, X < 4294967296 → l = hex8 X → a = valH (l.take k)
theorem hex_dig {l : List UInt8} {k X : Nat} (h : l = hex8 X) (hk : k < l.length) : 0 ≤ hdig (l.getD k 0) := allH_at (by rw [h]; exact allH_hexK 8 X) hk
theorem hdig_cases {c : UInt8} (h : 0 ≤ hdig c) : (48 ≤ c.toNat ∧ c.toNat ≤ 57 ∧ hdig c = (c.toNat : Int) - 48) ∨ (97 ≤ c.toNat ∧ c.toNat ≤ 102 ∧ lo c.toNat = c.toNat ∧ hdig c = (c.toNat : Int) - 97 + 10) := by
  unfold hdig at *
  split at h
  · rename_i g; rw [if_pos g]; exact .inl ⟨g.1, g.2, rfl⟩
  · rename_i g
    rw [if_neg g]
    split at h
    · rename_i g2
      rw [if_pos g2]
      refine .inr ⟨g2.1, g2.2, ?_, rfl⟩
      have := lo_same ⟨c.toNat - 97, by omega⟩
      rw [show 97 + (⟨c.toNat - 97, by omega⟩ : Fin 6).val = c.toNat by simp; omega] at this
      exact this
    · omega
theorem PInv.digit {l : List UInt8} {k a B : Nat} (h : PInv l k a) (hk : k < l.length) (hB : B = (l.getD k 0).toNat) (h1 : 48 ≤ B) (h2 : B ≤ 57) : PInv l (k + 1) (16 * a + (B - 48)) := by
  intro X hX e
  rw [valH_take hk, ← h X hX e]
  rcases hdig_cases (hex_dig e hk) with ⟨g1, g2, g3⟩ | ⟨g1, _⟩
  · rw [g3, ← hB]; omega
  · omega
theorem PInv.letter {l : List UInt8} {k a B : Nat} (h : PInv l k a) (hk : k < l.length) (hB : B = (l.getD k 0).toNat) (h1 : ¬ (48 ≤ B ∧ B ≤ 57)) : PInv l (k + 1) (16 * a + (lo B - 97 + 10)) := by
  intro X hX e
  rw [valH_take hk, ← h X hX e]
  rcases hdig_cases (hex_dig e hk) with ⟨g1, g2, g3⟩ | ⟨g1, g2, g3, g4⟩
  · omega
  · rw [g4, hB, g3]; omega
theorem PInv.bad {l : List UInt8} {k B : Nat} (hk : k < l.length) (hB : B = (l.getD k 0).toNat) (h1 : ¬ (48 ≤ B ∧ B ≤ 57)) (h2 : lo B < 97 ∨ 103 ≤ lo B) : ∀ X, X < 4294967296 → l = hex8 X → False := by
  intro X hX e
  rcases hdig_cases (hex_dig e hk) with ⟨g1, g2, g3⟩ | ⟨g1, g2, g3, g4⟩
  · omega
  · rw [hB, g3] at h2; omega
theorem PInv.big {l : List UInt8} {k a : Nat} (h : PInv l (k + 1) a) (hk : k < l.length) (ha : 4294967295 < a) : ∀ X, X < 4294967296 → l = hex8 X → False := by
  intro X hX e
  have h1 := h X hX e
  have h2 := valH_bd (l.take (k + 1))
  have h3 : l.length = 8 := by rw [e]; exact hexK_len 8 X
  have h4 : (l.take (k + 1)).length ≤ 8 := by rw [List.length_take]; omega
  have h5 : (16 : Nat) ^ (l.take (k + 1)).length ≤ 16 ^ 8 := Nat.pow_le_pow_right (by omega) h4
  have h6 : (16 : Nat) ^ 8 = 4294967296 := by decide
  omega
/-- what a reading at base 16 gives -/
def PURet (l : List UInt8) (w : World) (e : Ending) (w' : World) : Prop := ∃ (u : Nat) (er : Value), e = .returned (.tuple #[.int .u64 (u : Int), er]) ∧ u ≤ 18446744073709551615 ∧
  (er = .nilIface ∨ er = .iface 105 (.int .i64 1) ∨ er = .iface 105 (.int .i64 2)) ∧ (∀ X, X < 4294967296 → l = hex8 X → u = X ∧ er = .nilIface) ∧ Bel w w'
set_option maxRecDepth 100000 in
set_option maxHeartbeats 2000000 in
theorem pu_any (w : World) (l : List UInt8) (hl : l.length ≤ 1048576) : Calls Tryd.prog 84 #[.string ⟨l.toArray⟩, .int .i64 16, .int .i64 32] w (PURet l w) := by
  have hsz := size_at l
  obtain ⟨n, hn⟩ : ∃ n, n = l.length := ⟨_, rfl⟩
  have hn' := Lib.hid hn
  rw [← hn] at hsz hl
  have hcv := Lib.run_convert_string_bytes (P := Tryd.prog) w 9 71 5 ⟨l.toArray⟩ Tryd.underlying9 Tryd.underlying71 Tryd.underlying5
  rw [hsz] at hcv
  obtain ⟨w1, hw1⟩ : ∃ w1, w1 = Lib.bytesWorld w 5 ⟨l.toArray⟩ := ⟨_, rfl⟩
  obtain ⟨cap, hcap⟩ : ∃ cap, cap = grownCap w n 0 5 := ⟨_, rfl⟩
  rw [← hw1, ← hcap] at hcv
  have hb1 := Lib.hid (show Bel w w1 by rw [hw1]; exact Lib.bytesWorld_below _ _ _)
  have hcell := Lib.hid (show ∀ j, j < n → w1.cell? ⟨w.heap.size, j, none⟩ = some (.int .u8 ((l.getD j 0).toNat : Int)) from fun j hj => by rw [hw1]; exact Lib.bytesWorld_cell w _ ⟨l.toArray⟩ j (by rw [hsz]; exact hj))
  replace hcv := Lib.hid hcv
  clear hn hw1 hcap
  by_cases hn0 : n = 0
  · have hl0 : l = [] := List.length_eq_zero_iff.1 (by rw [← hn'.out, hn0])
    have hbad := Lib.hid (show ∀ X, X < 4294967296 → l = hex8 X → False from fun X hX e => by
      have := congrArg List.length e
      rw [hexK_len, hl0] at this; cases this)
    subst hn0
    clear hcell hcv hn'
    subst hl0
    go_enter Tryd.func84, Tryd.ntmps84
    go_wp2_with fail
    refine bodyPost_ret (v := .tuple #[.int .u64 0, .iface 105 (.int .i64 2)]) (by simp [results, Tryd.results84, go_sem]) rfl ?_
    exact ⟨0, _, rfl, by omega, .inr (.inr rfl), fun X hX e => (hbad.out X hX e).elim, Bel.refl _⟩
  · have hne : (l == ([] : List UInt8)) = false := by
      cases l with
      | nil => exact absurd hn'.out hn0
      | cons _ _ => rfl
    have hne2 : ¬ l = [] := by intro e; rw [e] at hne; cases hne
    go_enter Tryd.func84, Tryd.ntmps84
    go_wp2_with fail
    simp only [hcv.out, Result.andThen]
    clear hne hne2
    go_wp2_with fail
    go_loopw [12, 13, 101] (fun us nv iv wr => ∃ k a : Nat, us = .bool false ∧ nv = .int .u64 (a : Int) ∧ iv = .int .i64 (k : Int) ∧ k ≤ n ∧ a ≤ 4294967295 ∧ Hid (PInv l k a) ∧ w1 = wr) (fun _ _ iv _ => n - (intOf iv).toNat)
    case atStart => exact ⟨0, 0, rfl, rfl, rfl, by omega, by omega, Lib.hid (fun X hX e => rfl), rfl⟩
    case round =>
      obtain ⟨k, a, rfl, rfl, rfl, hk, ha, hI, rfl⟩ := hrel
      by_cases hlt : k < n
      · have h1 := hcell.out k hlt
        have hkl := Lib.hid (show k < l.length by have := hn'.out; omega)
        obtain ⟨B, hB⟩ : ∃ B, B = (l.getD k 0).toNat := ⟨_, rfl⟩
        rw [← hB] at h1
        have hB256 : B < 256 := by rw [hB]; exact (l.getD k 0).toNat_lt
        by_cases hd1 : 48 ≤ B ∧ B ≤ 57
        · have hN := Lib.hid (hI.out.digit hkl.out hB hd1.1 hd1.2)
          obtain ⟨hd1, hd2⟩ := hd1
          have h95 : ((B : Int) == 95) = false := by simp; omega
          replace hB := Lib.hid hB
          obtain ⟨d, hd⟩ : ∃ d, d = B - 48 := ⟨_, rfl⟩
          have hdI : (B : Int) - 48 = (d : Int) := by omega
          have hd10 : d < 10 := by omega
          have hB48 : (48 : Int) ≤ (B : Int) := by omega
          have hB57 : (B : Int) ≤ 57 := by omega
          rw [← hd] at hN
          replace hd := Lib.hid hd
          have hcut1 : ¬ ((1152921504606846976 : Int) ≤ (a : Int)) := by omega
          have hcut2 : decide ((1152921504606846976 : Int) ≤ (a : Int)) = false := decide_eq_false hcut1
          have hw1 : IntKind.u64.wrap ((a : Int) * 16) = (a : Int) * 16 := by rw [IntKind.wrap_u64]; omega
          have hw2 : IntKind.u64.wrap ((a : Int) * 16 + (d : Int)) = (a : Int) * 16 + (d : Int) := by rw [IntKind.wrap_u64]; omega
          have hlt1 : ¬ ((a : Int) * 16 + (d : Int) < (a : Int) * 16) := by omega
          have hlt2 : decide ((a : Int) * 16 + (d : Int) < (a : Int) * 16) = false := decide_eq_false hlt1
          have hd16 : ¬ ((16 : Int) ≤ (d : Int)) := by omega
          clear hd1 hd2 ha hd10
          by_cases hbig : 4294967295 < 16 * a + d
          · have hbad := Lib.hid (hN.out.big hkl.out hbig)
            have hbigI : (4294967295 : Int) < (a : Int) * 16 + (d : Int) := by omega
            have hbigJ := decide_eq_true hbigI
            clear hbig
            go_wp2_with fail
            refine bodyPost_ret (v := .tuple #[.int .u64 4294967295, .iface 105 (.int .i64 1)]) (by simp [results, Tryd.results84, go_sem]) rfl ?_
            exact ⟨4294967295, _, rfl, by omega, .inr (.inl rfl), fun X hX e => (hbad.out X hX e).elim, hb1.out⟩
          · have hbigI : ¬ (4294967295 : Int) < (a : Int) * 16 + (d : Int) := by omega
            have hbigJ := decide_eq_false hbigI
            clear hbig
            go_wp2_with fail
            refine ⟨⟨k + 1, 16 * a + d, rfl, by congr 1; omega, by simp, by omega, by omega, hN, trivial⟩, ?_⟩
            show n - (((k : Nat) : Int) + 1).toNat < n - ((k : Nat) : Int).toNat
            omega
        · have h95 : (false && false) = false := rfl
          obtain ⟨L, hL⟩ : ∃ L, L = lo B := ⟨_, rfl⟩
          have hL256 : L < 256 := by rw [hL]; exact lo_lt hB256
          have hLow := Lib.hid (fun w => lower_any w B hB256)
          rw [← hL] at hLow
          have hNl := Lib.hid (hI.out.letter hkl.out hB hd1)
          have hBd := Lib.hid (PInv.bad hkl.out hB hd1)
          rw [← hL] at hNl hBd
          have hl95 : B = 95 → L = 127 := fun e => by rw [hL, e]; decide
          replace hB := Lib.hid hB
          replace hL := Lib.hid hL
          have hsp : B < 48 ∨ 57 < B := by omega
          clear hd1 hB256 h95
          by_cases hlet : 97 ≤ L ∧ L ≤ 122
          · obtain ⟨hl1, hl2⟩ := hlet
            have h95i : ((B : Int) == 95) = false := by
              have : B ≠ 95 := fun e => by have := hl95 e; omega
              simp; omega
            clear hl95
            obtain ⟨f, hf⟩ : ∃ f, f = L - 97 := ⟨_, rfl⟩
            obtain ⟨d, hd⟩ : ∃ d, d = f + 10 := ⟨_, rfl⟩
            have hfI : (L : Int) - 97 = (f : Int) := by omega
            have hdI : (f : Int) + 10 = (d : Int) := by omega
            have hl97 : (97 : Int) ≤ (L : Int) := by omega
            have hl122 : (L : Int) ≤ 122 := by omega
            rw [← hf, ← hd] at hNl
            have hd35 : d ≤ 35 := by omega
            by_cases hd16 : d < 16
            · have hfin := Lib.hid (show d < 16 ∧ a ≤ 4294967295 from ⟨hd16, ha⟩)
              clear hd16 hf hd ha hl1 hl2
              rcases hsp with h48 | h57
              all_goals
                go_wp2_with fail
                refine (hLow.out _).mono ?_
                rintro e w' ⟨rfl, rfl⟩
                go_wp2_with fail
                refine (hLow.out _).mono ?_
                rintro e w' ⟨rfl, rfl⟩
                go_wp2_with fail
                refine (hLow.out _).mono ?_
                rintro e w' ⟨rfl, rfl⟩
                obtain ⟨hd16, ha⟩ := hfin.out
                have hcut1 : ¬ ((1152921504606846976 : Int) ≤ (a : Int)) := by omega
                have hcut2 : decide ((1152921504606846976 : Int) ≤ (a : Int)) = false := decide_eq_false hcut1
                have hw1 : IntKind.u64.wrap ((a : Int) * 16) = (a : Int) * 16 := by rw [IntKind.wrap_u64]; omega
                have hw2 : IntKind.u64.wrap ((a : Int) * 16 + (d : Int)) = (a : Int) * 16 + (d : Int) := by rw [IntKind.wrap_u64]; omega
                have hlt1 : ¬ ((a : Int) * 16 + (d : Int) < (a : Int) * 16) := by omega
                have hlt2 : decide ((a : Int) * 16 + (d : Int) < (a : Int) * 16) = false := decide_eq_false hlt1
                have hd16i : ¬ ((16 : Int) ≤ (d : Int)) := by omega
                by_cases hbig : 4294967295 < 16 * a + d
                · have hbad := Lib.hid (hNl.out.big hkl.out hbig)
                  have hbigI : (4294967295 : Int) < (a : Int) * 16 + (d : Int) := by omega
                  have hbigJ := decide_eq_true hbigI
                  clear hbig ha hd16 hd35
                  simp only []
                  repeat (first | go_skip | go_guarded | go_step | go_upon)
                  refine bodyPost_ret (v := .tuple #[.int .u64 4294967295, .iface 105 (.int .i64 1)]) (by simp [results, Tryd.results84, go_sem]) rfl ?_
                  exact ⟨4294967295, _, rfl, by omega, .inr (.inl rfl), fun X hX e => (hbad.out X hX e).elim, hb1.out⟩
                · have hbigI : ¬ (4294967295 : Int) < (a : Int) * 16 + (d : Int) := by omega
                  have hbigJ := decide_eq_false hbigI
                  clear hbig ha hd16 hd35
                  simp only []
                  repeat (first | go_skip | go_guarded | go_step | go_upon)
                  refine ⟨⟨k + 1, 16 * a + d, rfl, by congr 1; omega, by simp, by omega, by omega, hNl, trivial⟩, ?_⟩
                  show n - (((k : Nat) : Int) + 1).toNat < n - ((k : Nat) : Int).toNat
                  omega
            · have hbad := Lib.hid (hBd.out (.inr (by omega)))
              have hd16i : (16 : Int) ≤ (d : Int) := by omega
              clear hd16 hf hd ha hl1 hl2
              rcases hsp with h48 | h57
              all_goals
                go_wp2_with (go_at_call 102; refine (hLow.out _).mono ?_; rintro e w' ⟨rfl, rfl⟩)
                refine bodyPost_ret (v := .tuple #[.int .u64 0, .iface 105 (.int .i64 2)]) (by simp [results, Tryd.results84, go_sem]) rfl ?_
                exact ⟨0, _, rfl, by omega, .inr (.inr rfl), fun X hX e => (hbad.out X hX e).elim, hb1.out⟩
          · have hbad := Lib.hid (hBd.out (by omega))
            have hsq : L < 97 ∨ 122 < L := by omega
            clear hlet ha
            by_cases h95 : B = 95
            · obtain rfl := hl95 h95
              subst h95
              have hLow' := Lib.hid (show ∀ w, Calls Tryd.prog 102 #[.int .u8 95] w (ERet (.int .u8 127) w) from hLow.out)
              clear hl95 hsq hsp hLow
              go_wp2_with (go_at_call 102; refine (hLow'.out _).mono ?_; rintro e w' ⟨rfl, rfl⟩)
              refine bodyPost_ret (v := .tuple #[.int .u64 0, .iface 105 (.int .i64 2)]) (by simp [results, Tryd.results84, go_sem]) rfl ?_
              exact ⟨0, _, rfl, by omega, .inr (.inr rfl), fun X hX e => (hbad.out X hX e).elim, hb1.out⟩
            have h95i : ((B : Int) == 95) = false := by simp; omega
            clear hl95 h95
            rcases hsp with h48 | h57
            all_goals
              rcases hsq with h97 | h122
              all_goals
                go_wp2_with (go_at_call 102; refine (hLow.out _).mono ?_; rintro e w' ⟨rfl, rfl⟩)
                refine bodyPost_ret (v := .tuple #[.int .u64 0, .iface 105 (.int .i64 2)]) (by simp [results, Tryd.results84, go_sem]) rfl ?_
                exact ⟨0, _, rfl, by omega, .inr (.inr rfl), fun X hX e => (hbad.out X hX e).elim, hb1.out⟩
      · obtain rfl : k = n := by omega
        have hfin := Lib.hid (show ∀ X, X < 4294967296 → l = hex8 X → a = X from fun X hX e => by rw [hI.out X hX e, hn'.out, List.take_length, e, valH_hex8 hX])
        have ha' := Lib.hid (show a ≤ 18446744073709551615 by omega)
        clear ha
        go_wp2_with fail
        refine bodyPost_ret (v := .tuple #[.int .u64 (a : Int), .nilIface]) (by simp [results, Tryd.results84, go_sem]) rfl ?_
        exact ⟨a, _, rfl, ha'.out, .inl rfl, fun X hX e => ⟨hfin.out X hX e, rfl⟩, hb1.out⟩
end Go.Proofs.YtianaalokclklaaDoor
