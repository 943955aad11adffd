/-
  THE LAW 'FnExactReadDecimal': its contracts and its walk.
-/
import Derived.Test.YtianaalokclklaaDoorT3
import Derived.Test.YtianaalokclklaaDoorVd
import Derived.Lib.ParseIntBTie
import Derived.Lib.AtoiErrMem
set_option linter.unusedSimpArgs false
set_option linter.unusedVariables false
namespace Go.Proofs.YtianaalokclklaaDoor
open Go.RowKit Go.Fl

theorem inV_eq (v : Int) : inV v = inB v (-1000000000000000) 1000000000000000 := rfl
/-- the number whose text a text is -/
def VRt (l : List UInt8) (w : World) (e : Ending) (w' : World) : Prop := e = .returned (.tuple #[.int .i64 (if decB l then valS l else 0), .bool (decB l)]) ∧ Bel w w'
theorem byte_at {l : List UInt8} {k : Nat} (h : k < l.length) : ((⟨l.toArray⟩ : ByteArray)[k]'(by simpa [ByteArray.size] using h)).toNat = (l.getD k 0).toNat := by
  rw [List.getD_eq_getElem?_getD, List.getElem?_eq_getElem h]
  rfl
theorem size_at (l : List UInt8) : (⟨l.toArray⟩ : ByteArray).size = l.length := by simp [ByteArray.size]
theorem toList_at (l : List UInt8) : (⟨l.toArray⟩ : ByteArray).toList = l := by simp
/-- the state of the loop: 'a' is what the first 'k' bytes tell -/
structure VInv (l : List UInt8) (k a : Nat) : Prop where
  eq : a = valD (l.take k)
  bd : a < 100000000000000000
theorem VInv.start (l : List UInt8) : VInv l 0 0 := ⟨rfl, by omega⟩
theorem VInv.next {l : List UInt8} {k a : Nat} (h : VInv l k a) (hk : k < l.length) (hl : l.length ≤ 17) : VInv l (k + 1) (dstep a (l.getD k 0)) := by
  have e : valD (l.take (k + 1)) = dstep a (l.getD k 0) := by rw [valD_take hk, h.eq]
  refine ⟨e.symm, ?_⟩
  rw [← e]
  have h1 := valD_bd (l.take (k + 1))
  have h2 : (l.take (k + 1)).length ≤ 17 := by rw [List.length_take]; omega
  exact Nat.lt_of_lt_of_le h1 (Nat.le_trans (Nat.pow_le_pow_right (by omega) h2) (by decide))
set_option maxRecDepth 100000 in
set_option maxHeartbeats 2000000 in
theorem l01Value_any (w : World) (l : List UInt8) (hl : l.length ≤ 1048576) : Calls Tryd.prog 45 #[.string ⟨l.toArray⟩] w (VRt l w) := by
  have hsz := size_at l
  by_cases hb : 1 ≤ l.length ∧ l.length ≤ 17
  · obtain ⟨n, hn⟩ : ∃ n, n = l.length := ⟨_, rfl⟩
    have hn' := Lib.hid hn
    rw [← hn] at hsz hb
    obtain ⟨hb1, hb2⟩ := hb
    have hget := Lib.hid (fun k (hk : k < l.length) => byte_at hk)
    clear hl hn
    go_enter Tryd.func45, Tryd.ntmps45
    go_wp2_with fail
    go_loopw [4, 5] (fun v i wr => ∃ k a : Nat, k ≤ n ∧ i = .int .i64 k ∧ v = .int .i64 (a : Int) ∧ Hid (VInv l k a) ∧ w = wr) (fun _ i _ => n - (intOf i).toNat)
    case atStart => exact ⟨0, 0, Nat.zero_le _, rfl, rfl, Lib.hid (VInv.start l), rfl⟩
    case round =>
      obtain ⟨k, a, hk, rfl, rfl, hs, rfl⟩ := hrel
      have hbd := hs.out.bd
      by_cases hlt : k < n
      · obtain ⟨B, hB⟩ : ∃ B, B = (l.getD k 0).toNat := ⟨_, rfl⟩
        have hg := hget.out k (by have := hn'.out; omega)
        rw [← hB] at hg
        have hB255 : B < 256 := by rw [hB]; exact (l.getD k 0).toNat_lt
        have hN := Lib.hid (hs.out.next (by have := hn'.out; omega) (by have := hn'.out; omega))
        by_cases hd : 48 ≤ B ∧ B ≤ 57
        · have e1 : dstep a (l.getD k 0) = 10 * a + (B - 48) := by unfold dstep; rw [← hB, if_pos hd]
          rw [e1] at hN
          obtain ⟨hd1, hd2⟩ := hd
          clear e1
          replace hB := Lib.hid hB
          go_wp2_with fail
          refine ⟨⟨k + 1, 10 * a + (B - 48), by omega, by simp, by congr 1; omega, hN, trivial⟩, ?_⟩
          show n - (((k : Nat) : Int) + 1).toNat < n - ((k : Nat) : Int).toNat
          omega
        · have e1 : dstep a (l.getD k 0) = a := by unfold dstep; rw [← hB, if_neg hd]
          rw [e1] at hN
          clear e1
          replace hB := Lib.hid hB
          by_cases hd1 : 48 ≤ B
          · have hd2 : ¬ B ≤ 57 := fun e => hd ⟨hd1, e⟩
            clear hd
            go_wp2_with fail
            refine ⟨⟨k + 1, a, by omega, by simp, rfl, hN, trivial⟩, ?_⟩
            show n - (((k : Nat) : Int) + 1).toNat < n - ((k : Nat) : Int).toNat
            omega
          · clear hd
            go_wp2_with fail
            refine ⟨⟨k + 1, a, by omega, by simp, rfl, hN, trivial⟩, ?_⟩
            show n - (((k : Nat) : Int) + 1).toNat < n - ((k : Nat) : Int).toNat
            omega
      · obtain rfl : k = n := by omega
        have hva : a = valD l := by rw [hs.out.eq, hn'.out, List.take_length]
        obtain ⟨C, hC⟩ : ∃ C, C = (l.getD 0 0).toNat := ⟨_, rfl⟩
        have hg := hget.out 0 (by have := hn'.out; omega)
        rw [← hC] at hg
        have hg2 : (l[0]?.getD 0).toNat = C := by rw [← List.getD_eq_getElem?_getD]; exact hC.symm
        replace hC := Lib.hid hC
        have hva' := Lib.hid hva
        clear hva
        by_cases h45 : C = 45
        · subst h45
          have hV0 := (show valS l = -(a : Int) by unfold valS; rw [if_pos (UInt8.toNat_inj.1 (hC.out.symm.trans rfl)), hva'.out])
          obtain ⟨V, hV⟩ : ∃ V, V = valS l := ⟨_, rfl⟩
          rw [← hV] at hV0
          have hV1 : -9223372036854775808 ≤ V := by omega
          have hV2 : V ≤ 9223372036854775807 := by omega
          cases hq : inB V (-1000000000000000) 1000000000000000 with
          | false =>
            have hd := Lib.hid (show decB l = false by unfold decB; rw [← hV, inV_eq, hq]; rfl)
            replace hq := Lib.hid hq
            replace hV := Lib.hid hV
            subst hV0
            go_wp2_with fail
            refine (l00In_any _ _ _ _).mono ?_
            rintro e w' ⟨rfl, rfl⟩
            rw [hq.out]
            go_wp2_with fail
            refine bodyPost_ret (v := .tuple #[.int .i64 0, .bool false]) (by simp [results, Tryd.results45, go_sem]) rfl ?_
            unfold VRt
            rw [hd.out]
            exact ⟨rfl, Bel.refl _⟩
          | true =>
            cases hr : (Lib.itoa V == l) with
            | false =>
              have hd := Lib.hid (show decB l = false by unfold decB; rw [← hV, hr, Bool.and_false])
              have hcmp : (ByteArray.toList ⟨(Lib.itoa V).toArray⟩ == ByteArray.toList ⟨l.toArray⟩) = false := by rw [toList_at, toList_at]; exact hr
              have hcmp2 : ¬ Lib.itoa V = l := by simpa using hr
              replace hq := Lib.hid hq
              replace hV := Lib.hid hV
              subst hV0
              go_wp2_with fail
              refine (l00In_any _ _ _ _).mono ?_
              rintro e w' ⟨rfl, rfl⟩
              rw [hq.out]
              go_wp2_with fail
              refine (l01Dec_any _ _ hV1 hV2).mono ?_
              rintro e w' ⟨rfl, hB⟩
              replace hB := Lib.hid hB
              go_wp2_with fail
              refine bodyPost_ret (v := .tuple #[.int .i64 0, .bool false]) (by simp [results, Tryd.results45, go_sem]) rfl ?_
              unfold VRt
              rw [hd.out]
              exact ⟨rfl, hB.out⟩
            | true =>
              have hd := Lib.hid (show decB l = true by unfold decB; rw [← hV, inV_eq, hq, hr]; rfl)
              have hcmp2 : Lib.itoa V = l := by simpa using hr
              replace hcmp2 := Lib.hid hcmp2
              replace hq := Lib.hid hq
              replace hV := Lib.hid hV
              subst hV0
              go_wp2_with fail
              refine (l00In_any _ _ _ _).mono ?_
              rintro e w' ⟨rfl, rfl⟩
              rw [hq.out]
              go_wp2_with fail
              refine (l01Dec_any _ _ hV1 hV2).mono ?_
              rintro e w' ⟨rfl, hB⟩
              rw [hcmp2.out]
              replace hB := Lib.hid hB
              go_wp2_with fail
              refine bodyPost_ret (v := .tuple #[.int .i64 (-(a : Int)), .bool true]) (by simp [results, Tryd.results45, go_sem]) rfl ?_
              unfold VRt
              rw [hd.out, ← hV.out]
              exact ⟨rfl, hB.out⟩
        ·
          have hV0 := (show valS l = (a : Int) by unfold valS; rw [if_neg (fun e => h45 (by rw [hC.out, e]; rfl)), hva'.out])
          have h45i : ((C : Int) == 45) = false := by simp; omega
          obtain ⟨V, hV⟩ : ∃ V, V = valS l := ⟨_, rfl⟩
          rw [← hV] at hV0
          have hV1 : -9223372036854775808 ≤ V := by omega
          have hV2 : V ≤ 9223372036854775807 := by omega
          cases hq : inB V (-1000000000000000) 1000000000000000 with
          | false =>
            have hd := Lib.hid (show decB l = false by unfold decB; rw [← hV, inV_eq, hq]; rfl)
            replace hq := Lib.hid hq
            replace hV := Lib.hid hV
            subst hV0
            go_wp2_with fail
            refine (l00In_any _ _ _ _).mono ?_
            rintro e w' ⟨rfl, rfl⟩
            rw [hq.out]
            go_wp2_with fail
            refine bodyPost_ret (v := .tuple #[.int .i64 0, .bool false]) (by simp [results, Tryd.results45, go_sem]) rfl ?_
            unfold VRt
            rw [hd.out]
            exact ⟨rfl, Bel.refl _⟩
          | true =>
            cases hr : (Lib.itoa V == l) with
            | false =>
              have hd := Lib.hid (show decB l = false by unfold decB; rw [← hV, hr, Bool.and_false])
              have hcmp : (ByteArray.toList ⟨(Lib.itoa V).toArray⟩ == ByteArray.toList ⟨l.toArray⟩) = false := by rw [toList_at, toList_at]; exact hr
              have hcmp2 : ¬ Lib.itoa V = l := by simpa using hr
              replace hq := Lib.hid hq
              replace hV := Lib.hid hV
              subst hV0
              go_wp2_with fail
              refine (l00In_any _ _ _ _).mono ?_
              rintro e w' ⟨rfl, rfl⟩
              rw [hq.out]
              go_wp2_with fail
              refine (l01Dec_any _ _ hV1 hV2).mono ?_
              rintro e w' ⟨rfl, hB⟩
              replace hB := Lib.hid hB
              go_wp2_with fail
              refine bodyPost_ret (v := .tuple #[.int .i64 0, .bool false]) (by simp [results, Tryd.results45, go_sem]) rfl ?_
              unfold VRt
              rw [hd.out]
              exact ⟨rfl, hB.out⟩
            | true =>
              have hd := Lib.hid (show decB l = true by unfold decB; rw [← hV, inV_eq, hq, hr]; rfl)
              have hcmp2 : Lib.itoa V = l := by simpa using hr
              replace hcmp2 := Lib.hid hcmp2
              replace hq := Lib.hid hq
              replace hV := Lib.hid hV
              subst hV0
              go_wp2_with fail
              refine (l00In_any _ _ _ _).mono ?_
              rintro e w' ⟨rfl, rfl⟩
              rw [hq.out]
              go_wp2_with fail
              refine (l01Dec_any _ _ hV1 hV2).mono ?_
              rintro e w' ⟨rfl, hB⟩
              rw [hcmp2.out]
              replace hB := Lib.hid hB
              go_wp2_with fail
              refine bodyPost_ret (v := .tuple #[.int .i64 (a : Int), .bool true]) (by simp [results, Tryd.results45, go_sem]) rfl ?_
              unfold VRt
              rw [hd.out, ← hV.out]
              exact ⟨rfl, hB.out⟩
  · have hd : decB l = false := by
      cases h : decB l with
      | false => rfl
      | true => exact absurd (decB_len h) hb
    have hd' := Lib.hid hd
    obtain ⟨n, hn⟩ : ∃ n, n = l.length := ⟨_, rfl⟩
    rw [← hn] at hsz hb hl
    replace hn := Lib.hid hn
    clear hd
    by_cases h0 : n < 1
    · go_enter Tryd.func45, Tryd.ntmps45
      go_wp2_with fail
      refine bodyPost_ret (v := .tuple #[.int .i64 0, .bool false]) (by simp [results, Tryd.results45, go_sem]) rfl ?_
      unfold VRt
      rw [hd'.out]
      exact ⟨rfl, Bel.refl _⟩
    · have h17 : 17 < n := by omega
      go_enter Tryd.func45, Tryd.ntmps45
      go_wp2_with fail
      refine bodyPost_ret (v := .tuple #[.int .i64 0, .bool false]) (by simp [results, Tryd.results45, go_sem]) rfl ?_
      unfold VRt
      rw [hd'.out]
      exact ⟨rfl, Bel.refl _⟩
theorem sReadDecimal_any (w : World) (l : List UInt8) (hl : l.length ≤ 1048576) : Calls Tryd.prog 20 #[.string ⟨l.toArray⟩] w (VRt l w) := by
  obtain ⟨V, hV⟩ : ∃ V, V = (if decB l then valS l else 0) := ⟨_, rfl⟩
  obtain ⟨B, hB⟩ : ∃ B, B = decB l := ⟨_, rfl⟩
  replace hV := Lib.hid hV
  replace hB := Lib.hid hB
  go_enter Tryd.func20, Tryd.ntmps20
  go_wp2_with fail
  refine (l01Value_any w l hl).mono ?_
  rintro e w' ⟨rfl, hW⟩
  rw [← hV.out, ← hB.out]
  replace hW := Lib.hid hW
  go_wp2_with fail
  refine bodyPost_ret (v := .tuple #[.int .i64 V, .bool B]) (by simp [results, Tryd.results20, go_sem]) rfl ?_
  exact ⟨by rw [hV.out, hB.out], hW.out⟩
/-- what stands in the two variables of package strconv -/
def Errs (w : World) : Prop := (∃ tp p, w.var? Tryd.prog "strconv.ErrSyntax" = some #[.iface tp p]) ∧ ∃ tp p, w.var? Tryd.prog "strconv.ErrRange" = some #[.iface tp p]
theorem errs_bel {w w' : World} (h : Errs w) (hb : Bel w w') : Errs w' := by
  obtain ⟨⟨t, p, h1⟩, t2, p2, h2⟩ := h
  exact ⟨⟨t, p, var_bel h1 hb⟩, t2, p2, var_bel h2 hb⟩
/-- strconv.ParseInt at base 10 and 64 bits -/
theorem parse_any (w : World) (l : List UInt8) (hl : l.length ≤ 1048576) (he : Errs w) :
    Calls Tryd.prog 46 #[.string ⟨l.toArray⟩, .int .i64 10, .int .i64 64] w (fun e w' => (∃ v, Lib.parseIntB 64 l = .ok v ∧ e = .returned (.tuple #[.int .i64 v, .nilIface]) ∧ Bel w w') ∨
      (∃ v t p, (∀ x, Lib.parseIntB 64 l ≠ .ok x) ∧ e = .returned (.tuple #[.int .i64 v, .iface t p]) ∧ Bel w w')) := by
  obtain ⟨⟨t, p, h1⟩, t2, p2, h2⟩ := he
  have hsz := size_at l
  by_cases hok : ∃ v, Lib.parseIntB 64 l = .ok v
  · obtain ⟨v, hv⟩ := hok
    refine (Tryd.strconv_ParseInt_10_at64_ok ⟨l.toArray⟩ (by rw [hsz]; omega) v hv w).mono ?_
    rintro e w' ⟨rfl, hw⟩
    refine .inl ⟨v, hv, rfl, ?_⟩
    rcases hw with rfl | ⟨t, rfl⟩
    · exact Bel.refl _
    · exact Lib.bytesWorld_below _ _ _
  · have hno : ∀ x, Lib.parseIntB 64 l ≠ .ok x := fun x e => hok ⟨x, e⟩
    by_cases hr : Lib.parseIntB 64 l = .range
    · refine (Tryd.strconv_ParseInt_10_at64_range_var ⟨l.toArray⟩ (by rw [hsz]; omega) hr t2 p2 w h2).mono ?_
      rintro e w' ⟨N, rfl, _, _, hB⟩
      exact .inr ⟨_, _, _, hno, rfl, hB⟩
    · refine (Tryd.strconv_ParseInt_10_at64_syntax_var ⟨l.toArray⟩ (by rw [hsz]; omega) hno hr t p w h1).mono ?_
      rintro e w' ⟨N, rfl, _, _, hB⟩
      exact .inr ⟨_, _, _, hno, rfl, hB⟩
set_option maxHeartbeats 1000000 in
theorem iReadDecimal_any (w : World) (l : List UInt8) (hl : l.length ≤ 1048576) (he : Errs w) (ht : Tab w) : Calls Tryd.prog 21 #[.string ⟨l.toArray⟩] w (VRt l w) := by
  have he' := Lib.hid he
  have ht' := Lib.hid ht
  clear he ht
  go_enter Tryd.func21, Tryd.ntmps21
  go_wp2_with fail
  refine (parse_any w l hl he'.out).mono ?_
  rintro e w1 (⟨v, hv, rfl, hB1⟩ | ⟨v, t, p, hno, rfl, hB1⟩)
  · have hv0 := Lib.hid hv
    obtain ⟨hv1, hv2⟩ : -9223372036854775808 ≤ v ∧ v ≤ 9223372036854775807 := by
      have hb := Lib.parseIntB_bounds hv
      have e63 : ((2 ^ (64 - 1) : Nat) : Int) = 9223372036854775808 := by decide
      rw [e63] at hb
      omega
    have ht1 := Lib.hid (tab_bel ht'.out hB1)
    replace hB1 := Lib.hid hB1
    clear hv
    cases hr : (Lib.itoa v == l) with
    | false =>
      have hcmp : (ByteArray.toList ⟨(Lib.itoa v).toArray⟩ == ByteArray.toList ⟨l.toArray⟩) = false := by rw [toList_at, toList_at]; exact hr
      have hcmp2 : ¬ Lib.itoa v = l := by simpa using hr
      have hd := Lib.hid (show decB l = false by
        cases hd : decB l with
        | false => rfl
        | true =>
          have h1 := decB_parse hd
          rw [hv0.out] at h1
          injection h1 with h1
          unfold decB at hd
          rw [Bool.and_eq_true, beq_iff_eq, ← h1] at hd
          exact absurd hd.2 hcmp2)
      go_wp2_with fail
      refine (iDecimal_any _ _ hv1 hv2 ht1.out).mono ?_
      rintro e w2 ⟨rfl, hB2⟩
      replace hB1 := Lib.hid (hB1.out.trans hB2)
      clear hB2
      go_wp2_with fail
      refine bodyPost_ret (v := .tuple #[.int .i64 0, .bool false]) (by simp [results, Tryd.results21, go_sem]) rfl ?_
      unfold VRt
      rw [hd.out]
      exact ⟨rfl, hB1.out⟩
    | true =>
      have hcmp2 : Lib.itoa v = l := by simpa using hr
      have hvs := Lib.hid (show valS l = v by rw [← hcmp2, valS_itoa])
      cases hq : inB v (-1000000000000000) 1000000000000000 with
      | false =>
        have hd := Lib.hid (show decB l = false by unfold decB; rw [hvs.out, inV_eq, hq]; rfl)
        replace hcmp2 := Lib.hid hcmp2
        replace hq := Lib.hid hq
        clear hr
        go_wp2_with fail
        refine (iDecimal_any _ _ hv1 hv2 ht1.out).mono ?_
        rintro e w2 ⟨rfl, hB2⟩
        replace hB1 := Lib.hid (hB1.out.trans hB2)
        clear hB2
        rw [hcmp2.out]
        go_wp2_with fail
        refine (within_any _ _ _ _).mono ?_
        rintro e w' ⟨rfl, rfl⟩
        rw [hq.out]
        go_wp2_with fail
        refine bodyPost_ret (v := .tuple #[.int .i64 0, .bool false]) (by simp [results, Tryd.results21, go_sem]) rfl ?_
        unfold VRt
        rw [hd.out]
        exact ⟨rfl, hB1.out⟩
      | true =>
        have hd := Lib.hid (show decB l = true by unfold decB; rw [hvs.out, inV_eq, hq, Bool.true_and]; exact hr)
        replace hcmp2 := Lib.hid hcmp2
        replace hq := Lib.hid hq
        clear hr
        go_wp2_with fail
        refine (iDecimal_any _ _ hv1 hv2 ht1.out).mono ?_
        rintro e w2 ⟨rfl, hB2⟩
        replace hB1 := Lib.hid (hB1.out.trans hB2)
        clear hB2
        rw [hcmp2.out]
        go_wp2_with fail
        refine (within_any _ _ _ _).mono ?_
        rintro e w' ⟨rfl, rfl⟩
        rw [hq.out]
        go_wp2_with fail
        refine bodyPost_ret (v := .tuple #[.int .i64 v, .bool true]) (by simp [results, Tryd.results21, go_sem]) rfl ?_
        unfold VRt
        rw [hd.out, hvs.out]
        exact ⟨rfl, hB1.out⟩
  · have hd := Lib.hid (show decB l = false by
      cases hd : decB l with
      | false => rfl
      | true => exact absurd (decB_parse hd) (hno _))
    replace hB1 := Lib.hid hB1
    clear hno
    go_wp2_with fail
    refine bodyPost_ret (v := .tuple #[.int .i64 0, .bool false]) (by simp [results, Tryd.results21, go_sem]) rfl ?_
    unfold VRt
    rw [hd.out]
    exact ⟨rfl, hB1.out⟩
set_option maxHeartbeats 1000000 in
theorem walkRD (w : World) (l : List UInt8) (he : Errs w) (ht : Tab w) : Calls Tryd.prog 6 #[.string ⟨l.toArray⟩] w (fun e w' => e = .returned (.bool true) ∧ Bel w w') := by
  have hsz := size_at l
  obtain ⟨n, hn⟩ : ∃ n, n = l.length := ⟨_, rfl⟩
  rw [← hn] at hsz
  replace hn := Lib.hid hn
  by_cases hnz : n ≤ 1048576
  · obtain ⟨V, hV⟩ : ∃ V, V = (if decB l then valS l else 0) := ⟨_, rfl⟩
    obtain ⟨B, hB⟩ : ∃ B, B = decB l := ⟨_, rfl⟩
    replace hV := Lib.hid hV
    replace hB := Lib.hid hB
    have he' := Lib.hid he
    have ht' := Lib.hid ht
    clear he ht
    go_enter Tryd.func6, Tryd.ntmps6
    go_wp2_with fail
    refine (sReadDecimal_any w l (by have := hn.out; omega)).mono ?_
    rintro e w1 ⟨rfl, hB1⟩
    rw [← hV.out, ← hB.out]
    replace he' := Lib.hid (errs_bel he'.out hB1)
    replace ht' := Lib.hid (tab_bel ht'.out hB1)
    replace hB1 := Lib.hid hB1
    go_wp2_with fail
    refine (iReadDecimal_any _ l (by have := hn.out; omega) he'.out ht'.out).mono ?_
    rintro e w2 ⟨rfl, hB2⟩
    rw [← hV.out, ← hB.out]
    replace hB1 := Lib.hid (hB1.out.trans hB2)
    clear hB2
    go_wp2_with fail
    go_ret
    exact ⟨rfl, hB1.out⟩
  · go_enter Tryd.func6, Tryd.ntmps6
    go_wp2_with fail
    go_ret
    exact ⟨rfl, Bel.refl _⟩
theorem walkFnExactReadDecimal (w : World) (s : ByteArray) (hs : s.size ≤ maxLen) (h : Errs w ∧ Tab w) : Calls Tryd.prog 6 #[.string s] w (fun e w' => e = .returned (.bool true) ∧ Bel w w') := by
  obtain ⟨⟨l⟩⟩ := s
  exact walkRD w l h.1 h.2
theorem nameES (u : TypeId) (h : Tryd.prog.typeName? 3 u = some "*errors.errorString") : u = 135 :=
  typeName_ptr_named (nm := "errors.errorString") (by rw [show "*" ++ "errors.errorString" = "*errors.errorString" by decide]; kernel_rfl) (by kernel_rfl) (by decide) u (by rw [show "*" ++ "errors.errorString" = "*errors.errorString" by decide]; exact h)
theorem gES : Tryd.prog.globalNamed "strconv.ErrSyntax" = some 2 := by kernel_rfl
theorem gESt : (Tryd.prog.globals[2]?).map (·.type) = some 59 := by kernel_rfl
theorem gER : Tryd.prog.globalNamed "strconv.ErrRange" = some 3 := by kernel_rfl
theorem gERt : (Tryd.prog.globals[3]?).map (·.type) = some 59 := by kernel_rfl
theorem cells137 : Tryd.prog.cellsOf 137 = 1 := by kernel_rfl
theorem cells9 : Tryd.prog.cellsOf 9 = 1 := by kernel_rfl
theorem sent {n : String} {text : List UInt8} {r : List (String × DataW Unit)} {W : World} {g : Nat}
    (h : laidMet Tryd.prog ((n, .iface "*errors.errorString" (.ptr (.agg [.lit (.string text)]))) :: r) W) (hg : Tryd.prog.globalNamed n = some g) (ht : (Tryd.prog.globals[g]?).map (·.type) = some 59) :
    ∃ tp p, W.var? Tryd.prog n = some #[.iface tp p] := by
  obtain ⟨a, s, h1, _⟩ := laid_sentinel h hg ht Tryd.underlying59 nameES Tryd.underlying135 Tryd.underlying137 rfl rfl Tryd.underlying9 cells137 cells9
  exact ⟨_, _, h1⟩
theorem factsFnExactReadDecimal {W : World} (h : laidMet Tryd.prog Rows.fnExactReadDecimalRow.laid W) : Errs W ∧ Tab W :=
  ⟨⟨sent (h.tail.tail.tail.tail) gES gESt, sent (h.tail.tail.tail) gER gERt⟩,
    Lib.tabIs_of_head (n := 20) g17 g17t Tryd.underlying113 Tryd.underlying80 (by kernel_rfl) (by kernel_rfl) (h.tail.tail)⟩
end Go.Proofs.YtianaalokclklaaDoor
