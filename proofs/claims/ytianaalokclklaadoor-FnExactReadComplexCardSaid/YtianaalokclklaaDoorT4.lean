/-
  THE LAW 'FnExactListText': its contracts and its walk.
-/
import Derived.Test.YtianaalokclklaaDoorT3
import Derived.Test.YtianaalokclklaaDoorTx
set_option linter.unusedSimpArgs false
set_option linter.unusedVariables false
namespace Go.Proofs.YtianaalokclklaaDoor
open Go.RowKit Go.Fl

theorem add_lists {P : Program} (x y : List UInt8) (hx : x.length ≤ 8388608) (hy : y.length ≤ 8388608) (w : World) :
    (Op.stringOp .add ⟨x.toArray⟩ ⟨y.toArray⟩).run P w = .ok (.string ⟨(x ++ y).toArray⟩) w := run_string_add_lists w x y (by omega) (by omega)
abbrev decs (z : Nat → Int) : Nat → List UInt8 := fun i => Lib.itoa (z i)
theorem in_i64 {z : Nat → Int} {n k : Nat} (h : inAll z n = true) (hk : k < n) : -9223372036854775808 ≤ z k ∧ z k ≤ 9223372036854775807 := by
  have := inB_iff.1 (allB_iff.1 h k hk)
  omega
set_option maxHeartbeats 1000000 in
theorem l01Text_any (w : World) (ao : Option Addr) (n c : Nat) (z : Nat → Int) (hA : IRow .i64 w ao n z) (hm : n ≤ 64) (hz : inAll z n = true) :
    Calls Tryd.prog 38 #[.slice ao n c] w (StRet (txt (decs z) n) w) := by
  by_cases hn0 : n = 0
  · subst hn0
    clear hA
    go_enter Tryd.func38, Tryd.ntmps38
    go_wp2_with fail
    go_ret
    exact ⟨rfl, Bel.refl _⟩
  · have hT : txt (decs z) n = tx (decs z) n := by unfold txt; rw [if_neg hn0]
    rw [hT]
    have hA' := Lib.hid hA
    have hlen := Lib.hid (tx_len (decs z) 20 n (fun i hi => by obtain ⟨g1, g2⟩ := in_i64 hz hi; exact itoa_len g1 g2))
    have hz' := Lib.hid hz
    obtain ⟨b, off, rfl, hb, hcell⟩ := hA.at0 (by omega)
    have h1 : w.cell? ⟨b, off, none⟩ = some (.int .i64 (z 0)) := hcell 0 (by omega)
    have hcell' := Lib.hid hcell
    clear hA hz hT hcell
    obtain ⟨g1, g2⟩ := in_i64 hz'.out (show 0 < n by omega)
    obtain ⟨Z, hZ⟩ : ∃ Z, Z = z 0 := ⟨_, rfl⟩
    rw [← hZ] at h1 g1 g2
    replace hZ := Lib.hid hZ
    have g1' := Lib.hid g1
    have g2' := Lib.hid g2
    clear g1 g2
    go_enter Tryd.func38, Tryd.ntmps38
    go_wp2_with fail
    refine (l01Dec_any _ _ g1'.out g2'.out).mono ?_
    rintro e w1 ⟨rfl, hB⟩
    rw [hZ.out]
    replace hB := Lib.hid hB
    clear hZ g1' g2' h1
    clear Z
    go_wp2_with fail
    go_loopw [3, 4] (fun s i wr => ∃ k : Nat, 1 ≤ k ∧ k ≤ n ∧ i = .int .i64 k ∧ s = .string ⟨(tx (decs z) k).toArray⟩ ∧ Hid (Bel w wr)) (fun _ i _ => n - (intOf i).toNat)
    case atStart => exact ⟨1, Nat.le_refl _, by omega, rfl, rfl, hB⟩
    case round =>
      obtain ⟨k, hk1, hk, rfl, rfl, hbw⟩ := hrel
      by_cases hlt : k < n
      · have h1 := (hbw.out.cell (p := ⟨b, off + k, none⟩) hb).trans (hcell'.out k hlt)
        obtain ⟨g1, g2⟩ := in_i64 hz'.out hlt
        have hS := Lib.hid (tx_succ (decs z) hk1)
        have hl1 := hlen.out k hk
        have hl2 := itoa_len g1 g2
        obtain ⟨T, hT⟩ : ∃ T, T = tx (decs z) k := ⟨_, rfl⟩
        obtain ⟨L, hL⟩ : ∃ L, L = Lib.itoa (z k) := ⟨_, rfl⟩
        rw [← hT] at hl1 ⊢
        rw [← hL] at hl2
        obtain ⟨Z, hZ⟩ : ∃ Z, Z = z k := ⟨_, rfl⟩
        rw [← hZ] at h1 g1 g2 hL
        replace hT := Lib.hid hT
        replace hL := Lib.hid hL
        replace hZ := Lib.hid hZ
        replace g1 := Lib.hid g1
        replace g2 := Lib.hid g2
        have hl3 : T.length ≤ 1344 := by omega
        clear hl1
        go_wp2_with fail
        refine (l01Dec_any _ _ g1.out g2.out).mono ?_
        rintro e w2 ⟨rfl, hB2⟩
        rw [← hL.out]
        replace hbw := Lib.hid (hbw.out.trans hB2)
        clear hB2
        go_wp2_with fail
        refine ⟨⟨k + 1, by omega, by omega, by simp, ?_, hbw⟩, ?_⟩
        · rw [hS.out, ← hT.out, show decs z k = L by rw [hL.out, hZ.out]]
          rfl
        · show n - (((k : Nat) : Int) + 1).toNat < n - ((k : Nat) : Int).toNat
          omega
      · go_wp2_with fail
        obtain rfl : k = n := by omega
        go_ret
        exact ⟨rfl, hbw.out⟩
theorem joined_any (w : World) (g cap n : Nat) (f : Nat → List UInt8) (hc : ∀ j, j < n → w.cell? ⟨g, j, none⟩ = some (.string ⟨(f j).toArray⟩)) (hg : g < w.heap.size) (hn : n ≤ 65536) (hcap : n ≤ cap) (hl : (tx f n).length ≤ 140737488355328) :
    Calls Tryd.prog 40 #[.slice (some ⟨g, 0, none⟩) n cap] w (StRet (txt f n) w) := by
  by_cases hn0 : n = 0
  · subst hn0
    clear hc
    go_enter Tryd.func40, Tryd.ntmps40
    go_wp2_with fail
    go_ret
    exact ⟨rfl, Bel.refl _⟩
  · have hJ := Tryd.strings_Join g 0 cap (strs f n) ⟨#[44]⟩ w (fun j x hx => by
      have hj : j < n := by
        have := (List.getElem?_eq_some_iff.1 hx).1
        rw [strs_len] at this; exact this
      rw [strs_at f hj] at hx
      obtain rfl := Option.some.inj hx
      rw [Nat.zero_add]; exact hc j hj) hg (by rw [strs_len]; omega) (by rw [strs_len]; omega) (by
        show (Lib.join ((strs f n).map (·.data.toList)) [44]).length ≤ _
        rw [txt_join f (by omega)]; unfold txt; rw [if_neg hn0]; exact hl)
    rw [strs_len] at hJ
    have hT : Lib.join ((strs f n).map (·.data.toList)) (⟨#[44]⟩ : ByteArray).data.toList = txt f n := txt_join f (by omega)
    rw [hT] at hJ
    have hJ' := Lib.hid hJ
    clear hJ hT hc hl
    go_enter Tryd.func40, Tryd.ntmps40
    go_wp2_with fail
    refine hJ'.out.mono ?_
    rintro e w' ⟨rfl, hB⟩
    replace hB := Lib.hid hB
    go_wp2_with fail
    go_ret
    exact ⟨rfl, hB.out⟩
theorem infoStr : (Tryd.prog.info? 9).map (fun i => (i.zero, i.size, i.bytes)) = some (some (.string ⟨#[]⟩), 1, 16) := by kernel_rfl
/-- one value more, that lies in a block just made -/
theorem wpList_app1 {P : Program} {ops : Array Oper} {rest : List Oper} {o : Oper} {a : Act} {Q : Exit → Act → World → Prop} {w1 : World} {u : Value} (hgd : o.guard = none) (s x : Operand) (t : TypeId)
    (ho : o.op = .call { callee := .builtin .append, args := #[s, x], argTypes := #[t, t] }) (base : Nat) (e : TypeId) (i : TypeInfo) (z : Value) (bytes : Nat) (ht : P.underlying t = some (.slice e)) (hi : P.info? e = some i) (hz : i.zero = some z)
    (hsize : i.size = 1) (hby : i.bytes = bytes) (hzs : z.cells.size = 1) (v : Value) (n : Nat) (xs : List Value) (hs : a.eval s = v) (hown : w1.ownsRow base e 1 v n xs) (hx : a.eval x = .slice (some ⟨w1.heap.size, 0, none⟩) 1 1) (hu : u.oneCell' = true)
    (hb : (n + 1) * bytes ≤ 140737488355328) (hm : n + 1 ≤ maxLen) (hbase : base ≤ w1.heap.size)
    (h : ∀ v' w', w'.ownsRow base e 1 v' (n + 1) (xs ++ [u]) → (w1.alloc (.cells #[u] e)).grownBy w' v.ownBlock → wpList P ops Q rest (a.put o.dst v') w') : wpList P ops Q (o :: rest) a (w1.alloc (.cells #[u] e)) := by
  refine wpList_append_own _ hgd s x t ho base e i z 1 bytes ht hi hz hsize hby hzs (by omega) v n xs hs (hown.alloc _) ⟨w1.heap.size, 0, none⟩ 1 1 [u] hx rfl
    (World.news_of_block (cs := #[u]) (t := e) (fr := (0, 0)) (heap_alloc_new w1 _)) (by simp [hu]) hm hb (by simp; omega) ?_
  intro v' w' h1 h2 _
  exact h v' w' h1 h2
/-- a row of texts of the call's own -/
def LRow (w wr : World) (v : Value) (f : Nat → List UInt8) (k : Nat) : Prop := ∃ g cap, v = .slice (some ⟨g, 0, none⟩) k cap ∧ wr.ownsRow w.heap.size 9 1 v k ((strs f k).map Value.string) ∧ Bel w wr
theorem LRow.bel {w wr w1 : World} {v : Value} {f : Nat → List UInt8} {k : Nat} (h : LRow w wr v f k) (hb : Bel wr w1) : LRow w w1 v f k := by
  obtain ⟨g, cap, rfl, h1, h2⟩ := h
  exact ⟨g, cap, rfl, own_belx (bs := none) h1 (BelX.of hb) (by intro j hj; cases hj), h2.trans hb⟩
theorem LRow.start (w wr : World) (f : Nat → List UInt8) (hb : Bel w wr) : LRow w (wr.alloc (.cells #[] 9)) (.slice (some ⟨wr.heap.size, 0, none⟩) 0 0) f 0 :=
  ⟨_, _, rfl, World.ownsRow_made wr #[] 0 hb.size (by unfold maxLen; omega) rfl, hb.alloc _⟩
theorem LRow.next {w wr w2 : World} {v v2 : Value} {f : Nat → List UInt8} {k : Nat} {o : Obj} (h : LRow w wr v f k) (hown : w2.ownsRow w.heap.size 9 1 v2 (k + 1) ((strs f k).map Value.string ++ [.string ⟨(f k).toArray⟩])) (hg : (wr.alloc o).grownBy w2 v.ownBlock) : LRow w w2 v2 f (k + 1) := by
  obtain ⟨g, cap, rfl, h1, h2⟩ := h
  rw [← strs_succ] at hown
  obtain ⟨g2, cap2, rfl⟩ := own_succ hown
  have hs := h2.size
  have hb : Below w.heap.size (wr.alloc o) w2 := (Below.refl _ _).grown hg (by simp; omega) (own_row h1)
  exact ⟨g2, cap2, rfl, hown, Below.trans (h2.alloc o) hb⟩
theorem LRow.cells {w wr : World} {g cap k : Nat} {f : Nat → List UInt8} (h : wr.ownsRow w.heap.size 9 1 (.slice (some ⟨g, 0, none⟩) k cap) k ((strs f k).map Value.string)) : (∀ j, j < k → wr.cell? ⟨g, j, none⟩ = some (.string ⟨(f j).toArray⟩)) ∧ (0 < k → g < wr.heap.size) ∧ k ≤ cap := by
  refine ⟨fun j hj => ?_, fun hk => ?_, ?_⟩
  · have := World.ownsRow.cells h rfl j (.string ⟨(f j).toArray⟩) (by rw [List.getElem?_map, strs_at f hj]; rfl)
    unfold Addr.add at this
    simp at this
    split at this
    · rename_i h0; rw [h0]; rw [h0] at this; exact this
    · exact this
  · exact (World.ownsRow.lt h g rfl).2
  · rcases h.2 with ⟨h1, _⟩ | ⟨g2, cap2, cur, h1, _, _, h2, _⟩
    · cases h1
    · cases h1; exact h2
/-- a text and whether there is one -/
def TRet (b : Bool) (l : List UInt8) (w : World) (e : Ending) (w' : World) : Prop := e = .returned (.tuple #[.string ⟨(if b then l else []).toArray⟩, .bool b]) ∧ Bel w w'
set_option maxRecDepth 100000 in
set_option maxHeartbeats 1000000 in
theorem iListText_any (w : World) (ao : Option Addr) (n c : Nat) (z : Nat → Int) (hA : IRow .i64 w ao n z) (hm : n ≤ 1048576) (ht : Tab w) :
    Calls Tryd.prog 14 #[.slice ao n c] w (TRet (listB z n) (txt (decs z) n) w) := by
  have ht' := Lib.hid ht
  have hA' := Lib.hid hA
  clear hA ht
  cases hv : listB z n with
  | false =>
    replace hv := Lib.hid hv
    go_enter Tryd.func14, Tryd.ntmps14
    go_wp2_with fail
    refine (isList_any _ _ _ _ z hA'.out hm).mono ?_
    rintro e w' ⟨rfl, rfl⟩
    rw [hv.out]
    go_wp2_with fail
    refine bodyPost_ret (v := .tuple #[.string ⟨#[]⟩, .bool false]) (by simp [results, Tryd.results14, go_sem]) rfl ?_
    exact ⟨rfl, Bel.refl _⟩
  | true =>
    have hz' := Lib.hid (show inAll z n = true by unfold listB at hv; rw [Bool.and_eq_true] at hv; exact hv.1)
    have h64 : n ≤ 64 := by unfold listB at hv; rw [Bool.and_eq_true, decide_eq_true_eq] at hv; exact hv.2
    have hlen := Lib.hid (tx_len (decs z) 20 n (fun i hi => by obtain ⟨g1, g2⟩ := in_i64 hz'.out hi; exact itoa_len g1 g2))
    replace hv := Lib.hid hv
    obtain ⟨i0, hi0, hz0, hz1, hz2⟩ := info_parts infoStr
    go_enter Tryd.func14, Tryd.ntmps14
    go_wp2_with fail
    refine (isList_any _ _ _ _ z hA'.out hm).mono ?_
    rintro e w' ⟨rfl, rfl⟩
    rw [hv.out]
    go_wp2_with fail
    go_loopw [4, 13] (fun v i wr => ∃ k : Nat, k ≤ n ∧ i = .int .i64 k ∧ Hid (LRow w wr v (decs z) k)) (fun _ i _ => n - (intOf i).toNat)
    case atStart => exact ⟨0, Nat.zero_le _, rfl, Lib.hid (LRow.start w w _ (Bel.refl _))⟩
    case round =>
      obtain ⟨k, hk, rfl, hS⟩ := hrel
      by_cases hlt : k < n
      · obtain ⟨b, off, rfl, hb, hcell⟩ := hA'.out.at0 (by omega)
        obtain ⟨g, cap, rfl, _, hbel⟩ := hS.out
        have h1 := (hbel.cell (p := ⟨b, off + k, none⟩) hb).trans (hcell k hlt)
        clear hcell
        obtain ⟨g1, g2⟩ := in_i64 hz'.out hlt
        have ht1 := Lib.hid (tab_bel ht'.out hbel)
        clear hbel
        obtain ⟨Z, hZ⟩ : ∃ Z, Z = z k := ⟨_, rfl⟩
        have hD := Lib.hid (show Lib.itoa Z = decs z k by rw [hZ])
        rw [← hZ] at h1 g1 g2
        replace hZ := Lib.hid hZ
        replace g1 := Lib.hid g1
        replace g2 := Lib.hid g2
        go_wp2_with fail
        refine (iDecimal_any _ _ g1.out g2.out ht1.out).mono ?_
        rintro e w2 ⟨rfl, hB2⟩
        replace hS := Lib.hid (hS.out.bel hB2)
        clear hB2
        rw [hD.out]
        obtain ⟨_, _, hvv, hown, hbel⟩ := hS.out
        cases hvv
        have hbs := hbel.size
        go_wp2_with (at_builtin; refine wpList_app1 rfl _ _ 51 rfl w.heap.size 9 i0 _ 16 Tryd.underlying51 hi0 hz0 hz1 hz2 rfl (.slice (some ⟨g, 0, none⟩) k cap) k _ rfl hown rfl rfl (by omega) (by unfold maxLen; omega) hbs ?_; intro v2 w3 hown2 hgrow)
        have hN := Lib.hid (hS.out.next hown2 hgrow)
        clear hown2 hgrow
        go_wp2_with fail
        refine ⟨⟨k + 1, by omega, by simp, hN⟩, ?_⟩
        show n - (((k : Nat) : Int) + 1).toNat < n - ((k : Nat) : Int).toNat
        omega
      · obtain rfl : k = n := by omega
        obtain ⟨g, cap, rfl, hown, hbel⟩ := hS.out
        obtain ⟨hcc, hgl, hkc⟩ := LRow.cells hown
        have hbel' := Lib.hid hbel
        have hcc' := Lib.hid hcc
        have hll := hlen.out k (Nat.le_refl _)
        have hgl' : g < wr.heap.size := by
          rcases hown.2 with ⟨e1, _⟩ | ⟨g2, cap2, cur, e1, _, e3, _⟩
          · cases e1
          · cases e1; exact (Array.getElem?_eq_some_iff.1 e3).1
        clear hcc hgl hbel hown
        go_wp2_with fail
        refine (joined_any _ g cap k (decs z) hcc'.out hgl' (by omega) hkc (by omega)).mono ?_
        rintro e w3 ⟨rfl, hB3⟩
        have hB4 := Lib.hid (hbel'.out.trans hB3)
        clear hB3
        go_wp2_with fail
        refine bodyPost_ret (v := .tuple #[.string ⟨(txt (decs z) k).toArray⟩, .bool true]) (by simp [results, Tryd.results14, go_sem]) rfl ?_
        exact ⟨rfl, hB4.out⟩
theorem sListText_any (w : World) (ao : Option Addr) (n c : Nat) (z : Nat → Int) (hA : IRow .i64 w ao n z) (hm : n ≤ 1048576) :
    Calls Tryd.prog 12 #[.slice ao n c] w (TRet (listB z n) (txt (decs z) n) w) := by
  have hA' := Lib.hid hA
  clear hA
  cases hv : listB z n with
  | false =>
    replace hv := Lib.hid hv
    go_enter Tryd.func12, Tryd.ntmps12
    go_wp2_with fail
    refine (l01List_any _ _ _ _ z hA'.out hm).mono ?_
    rintro e w' ⟨rfl, rfl⟩
    rw [hv.out]
    go_wp2_with fail
    refine bodyPost_ret (v := .tuple #[.string ⟨#[]⟩, .bool false]) (by simp [results, Tryd.results12, go_sem]) rfl ?_
    exact ⟨rfl, Bel.refl _⟩
  | true =>
    have hz' := Lib.hid (show inAll z n = true by unfold listB at hv; rw [Bool.and_eq_true] at hv; exact hv.1)
    have h64 : n ≤ 64 := by unfold listB at hv; rw [Bool.and_eq_true, decide_eq_true_eq] at hv; exact hv.2
    replace hv := Lib.hid hv
    go_enter Tryd.func12, Tryd.ntmps12
    go_wp2_with fail
    refine (l01List_any _ _ _ _ z hA'.out hm).mono ?_
    rintro e w' ⟨rfl, rfl⟩
    rw [hv.out]
    go_wp2_with fail
    refine (l01Text_any _ _ _ _ z hA'.out h64 hz'.out).mono ?_
    rintro e w' ⟨rfl, hB⟩
    replace hB := Lib.hid hB
    go_wp2_with fail
    refine bodyPost_ret (v := .tuple #[.string ⟨(txt (decs z) n).toArray⟩, .bool true]) (by simp [results, Tryd.results12, go_sem]) rfl ?_
    exact ⟨rfl, hB.out⟩
set_option maxHeartbeats 1000000 in
theorem walkFnExactListText (w : World) (zo : Option Addr) (mz cz : Nat) (z : Nat → Int) (hM_z : mz ≤ maxLen) (hR_z : IRow .i64 w zo mz z) (ht : Tab w) :
    Calls Tryd.prog 4 #[.slice zo mz cz] w (fun e w' => e = .returned (.bool true) ∧ Bel w w') := by
  have hM_z' := hM_z
  unfold maxLen at hM_z'
  by_cases hnz : mz ≤ 1048576
  · have hz' := Lib.hid hR_z
    have ht' := Lib.hid ht
    have hself := Lib.hid (eqI_self z mz)
    clear hR_z ht
    obtain ⟨B, hBe⟩ : ∃ B, B = listB z mz := ⟨_, rfl⟩
    obtain ⟨T, hTe⟩ : ∃ T, T = (if B then txt (decs z) mz else []) := ⟨_, rfl⟩
    replace hBe := Lib.hid hBe
    replace hTe := Lib.hid hTe
    go_enter Tryd.func4, Tryd.ntmps4
    go_wp2_with fail
    refine (toI64o _ zo mz cz z hz'.out (by omega)).mono ?_
    rintro e w1 ⟨ao, rfl, hO, hB1⟩
    have hO' := Lib.hid hO
    have hB' := Lib.hid hB1
    clear hO hB1
    go_wp2_with fail
    refine (sListText_any _ ao mz mz z hO'.out.row (by omega)).mono ?_
    rintro e w2 ⟨rfl, hB⟩
    rw [← hBe.out, ← hTe.out]
    replace hB' := Lib.hid (hB'.out.trans hB)
    clear hO' hB
    go_wp2_with fail
    refine (toI64o _ zo mz cz z (hz'.out.bel hB'.out) (by omega)).mono ?_
    rintro e w3 ⟨bo, rfl, hO, hB⟩
    have hO' := Lib.hid hO
    replace hB' := Lib.hid (hB'.out.trans hB)
    clear hO hB
    go_wp2_with fail
    refine (iListText_any _ bo mz mz z hO'.out.row (by omega) (tab_bel ht'.out hB'.out)).mono ?_
    rintro e w4 ⟨rfl, hB⟩
    rw [← hBe.out, ← hTe.out]
    replace hO' := Lib.hid (hO'.out.bel hB)
    replace hB' := Lib.hid (hB'.out.trans hB)
    clear hB hBe hTe
    go_wp2_with fail
    refine (toI64o _ zo mz cz z (hz'.out.bel hB'.out) (by omega)).mono ?_
    rintro e w5 ⟨co, rfl, hP, hB⟩
    replace hO' := Lib.hid (hO'.out.bel hB)
    have hP' := Lib.hid hP
    replace hB' := Lib.hid (hB'.out.trans hB)
    clear hB hP
    go_wp2_with fail
    refine (eqI64 _ bo co mz mz mz z z hO'.out.row hP'.out.row (by omega)).mono ?_
    rintro e w6 ⟨rfl, hB⟩
    rw [hself.out]
    replace hB' := Lib.hid (hB'.out.trans hB)
    clear hB
    go_wp2_with fail
    go_ret
    exact ⟨rfl, hB'.out⟩
  · go_enter Tryd.func4, Tryd.ntmps4
    go_wp2_with fail
    go_ret
    exact ⟨rfl, Bel.refl _⟩
theorem tab_laidL {W : World} (h : laidMet Tryd.prog Rows.fnExactListTextRow.laid W) : Tab W :=
  Lib.tabIs_of_head (n := 20) g17 g17t Tryd.underlying113 Tryd.underlying80 (by kernel_rfl) (by kernel_rfl) (h.tail.tail)
theorem factsFnExactListText {W : World} (h : laidMet Tryd.prog Rows.fnExactListTextRow.laid W) : Tab W := tab_laidL h
end Go.Proofs.YtianaalokclklaaDoor
