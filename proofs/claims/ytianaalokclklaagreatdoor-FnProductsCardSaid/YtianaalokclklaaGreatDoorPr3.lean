/-
  PLAIN LAWS AND CONTRACTS, part 3: several texts laid behind one another.
-/
import Derived.Test.YtianaalokclklaaGreatDoorPr2
import Derived.Test.YtianaalokclklaaGreatDoorPr1
import Derived.Lib.ConvBytes
import Derived.Lib.SplitLaws
import Derived.Laws.DeepStrings4
import Derived.Lib.Hide
import Derived.Deep.OwnRows

/-
  THE LAW 'FnExactListText': its contracts and its walk.
-/
section
set_option linter.unusedSimpArgs false
set_option linter.unusedVariables false
namespace Go.Proofs.YtianaalokclklaaGreatDoor
open Go.RowKit Go.Fl

theorem add_lists {P : Program} (x y : List UInt8) (hx : x.length ≤ 8388608) (hy : y.length ≤ 8388608) (w : World) :
    (Op.stringOp .add ⟨x.toArray⟩ ⟨y.toArray⟩).run P w = .ok (.string ⟨(x ++ y).toArray⟩) w := run_string_add_lists w x y (by omega) (by omega)
abbrev decs (z : Nat → Int) : Nat → List UInt8 := fun i => Lib.itoa (z i)
theorem in_i64 {z : Nat → Int} {n k : Nat} (h : inAll z n = true) (hk : k < n) : -9223372036854775808 ≤ z k ∧ z k ≤ 9223372036854775807 := by
  have := inB_iff.1 (allB_iff.1 h k hk)
  omega
theorem joined_any (w : World) (g cap n : Nat) (f : Nat → List UInt8) (hc : ∀ j, j < n → w.cell? ⟨g, j, none⟩ = some (.string ⟨(f j).toArray⟩)) (hg : g < w.heap.size) (hn : n ≤ 65536) (hcap : n ≤ cap) (hl : (tx f n).length ≤ 140737488355328) :
    Calls Tryz.prog 48 #[.slice (some ⟨g, 0, none⟩) n cap] w (StRet (txt f n) w) := by
  by_cases hn0 : n = 0
  · subst hn0
    clear hc
    go_enter Tryz.func48, Tryz.ntmps48
    go_wp2_with fail
    go_ret
    exact ⟨rfl, Bel.refl _⟩
  · have hJ := Tryz.strings_Join g 0 cap (strs f n) ⟨#[44]⟩ w (fun j x hx => by
      have hj : j < n := by
        have := (List.getElem?_eq_some_iff.1 hx).1
        rw [strs_len] at this; exact this
      rw [strs_at f hj] at hx
      obtain rfl := Option.some.inj hx
      rw [Nat.zero_add]; exact hc j hj) hg (by rw [strs_len]; omega) (by rw [strs_len]; omega) (by
        show (Lib.join ((strs f n).map (·.data.toList)) [44]).length ≤ _
        rw [txt_join f (by omega)]; unfold txt; rw [if_neg hn0]; exact hl)
    rw [strs_len] at hJ
    have hT : Lib.join ((strs f n).map (·.data.toList)) (⟨#[44]⟩ : ByteArray).data.toList = txt f n := txt_join f (by omega)
    rw [hT] at hJ
    have hJ' := Lib.hid hJ
    clear hJ hT hc hl
    go_enter Tryz.func48, Tryz.ntmps48
    go_wp2_with fail
    refine hJ'.out.mono ?_
    rintro e w' ⟨rfl, hB⟩
    replace hB := Lib.hid hB
    go_wp2_with fail
    go_ret
    exact ⟨rfl, hB.out⟩
theorem infoStr : (Tryz.prog.info? 9).map (fun i => (i.zero, i.size, i.bytes)) = some (some (.string ⟨#[]⟩), 1, 16) := by kernel_rfl
/-- one value more, that lies in a block just made -/
theorem wpList_app1 {P : Program} {ops : Array Oper} {rest : List Oper} {o : Oper} {a : Act} {Q : Exit → Act → World → Prop} {w1 : World} {u : Value} (hgd : o.guard = none) (s x : Operand) (t : TypeId)
    (ho : o.op = .call { callee := .builtin .append, args := #[s, x], argTypes := #[t, t] }) (base : Nat) (e : TypeId) (i : TypeInfo) (z : Value) (bytes : Nat) (ht : P.underlying t = some (.slice e)) (hi : P.info? e = some i) (hz : i.zero = some z)
    (hsize : i.size = 1) (hby : i.bytes = bytes) (hzs : z.cells.size = 1) (v : Value) (n : Nat) (xs : List Value) (hs : a.eval s = v) (hown : w1.ownsRow base e 1 v n xs) (hx : a.eval x = .slice (some ⟨w1.heap.size, 0, none⟩) 1 1) (hu : u.oneCell' = true)
    (hb : (n + 1) * bytes ≤ 140737488355328) (hm : n + 1 ≤ maxLen) (hbase : base ≤ w1.heap.size)
    (h : ∀ v' w', w'.ownsRow base e 1 v' (n + 1) (xs ++ [u]) → (w1.alloc (.cells #[u] e)).grownBy w' v.ownBlock → wpList P ops Q rest (a.put o.dst v') w') : wpList P ops Q (o :: rest) a (w1.alloc (.cells #[u] e)) := by
  refine wpList_append_own _ hgd s x t ho base e i z 1 bytes ht hi hz hsize hby hzs (by omega) v n xs hs (hown.alloc _) ⟨w1.heap.size, 0, none⟩ 1 1 [u] hx rfl
    (World.news_of_block (cs := #[u]) (t := e) (fr := (0, 0)) (heap_alloc_new w1 _)) (by simp [hu]) hm hb (by simp; omega) ?_
  intro v' w' h1 h2 _
  exact h v' w' h1 h2
/-- a row of texts of the call's own -/
def LRow (w wr : World) (v : Value) (f : Nat → List UInt8) (k : Nat) : Prop := ∃ g cap, v = .slice (some ⟨g, 0, none⟩) k cap ∧ wr.ownsRow w.heap.size 9 1 v k ((strs f k).map Value.string) ∧ Bel w wr
theorem LRow.bel {w wr w1 : World} {v : Value} {f : Nat → List UInt8} {k : Nat} (h : LRow w wr v f k) (hb : Bel wr w1) : LRow w w1 v f k := by
  obtain ⟨g, cap, rfl, h1, h2⟩ := h
  exact ⟨g, cap, rfl, own_belx (bs := none) h1 (BelX.of hb) (by intro j hj; cases hj), h2.trans hb⟩
theorem LRow.start (w wr : World) (f : Nat → List UInt8) (hb : Bel w wr) : LRow w (wr.alloc (.cells #[] 9)) (.slice (some ⟨wr.heap.size, 0, none⟩) 0 0) f 0 :=
  ⟨_, _, rfl, World.ownsRow_made wr #[] 0 hb.size (by unfold maxLen; omega) rfl, hb.alloc _⟩
theorem LRow.next {w wr w2 : World} {v v2 : Value} {f : Nat → List UInt8} {k : Nat} {o : Obj} (h : LRow w wr v f k) (hown : w2.ownsRow w.heap.size 9 1 v2 (k + 1) ((strs f k).map Value.string ++ [.string ⟨(f k).toArray⟩])) (hg : (wr.alloc o).grownBy w2 v.ownBlock) : LRow w w2 v2 f (k + 1) := by
  obtain ⟨g, cap, rfl, h1, h2⟩ := h
  rw [← strs_succ] at hown
  obtain ⟨g2, cap2, rfl⟩ := own_succ hown
  have hs := h2.size
  have hb : Below w.heap.size (wr.alloc o) w2 := (Below.refl _ _).grown hg (by simp; omega) (own_row h1)
  exact ⟨g2, cap2, rfl, hown, Below.trans (h2.alloc o) hb⟩
theorem LRow.cells {w wr : World} {g cap k : Nat} {f : Nat → List UInt8} (h : wr.ownsRow w.heap.size 9 1 (.slice (some ⟨g, 0, none⟩) k cap) k ((strs f k).map Value.string)) : (∀ j, j < k → wr.cell? ⟨g, j, none⟩ = some (.string ⟨(f j).toArray⟩)) ∧ (0 < k → g < wr.heap.size) ∧ k ≤ cap := by
  refine ⟨fun j hj => ?_, fun hk => ?_, ?_⟩
  · have := World.ownsRow.cells h rfl j (.string ⟨(f j).toArray⟩) (by rw [List.getElem?_map, strs_at f hj]; rfl)
    unfold Addr.add at this
    simp at this
    split at this
    · rename_i h0; rw [h0]; rw [h0] at this; exact this
    · exact this
  · exact (World.ownsRow.lt h g rfl).2
  · rcases h.2 with ⟨h1, _⟩ | ⟨g2, cap2, cur, h1, _, _, h2, _⟩
    · cases h1
    · cases h1; exact h2
/-- a text and whether there is one -/
def TRet (b : Bool) (l : List UInt8) (w : World) (e : Ending) (w' : World) : Prop := e = .returned (.tuple #[.string ⟨(if b then l else []).toArray⟩, .bool b]) ∧ Bel w w'
end Go.Proofs.YtianaalokclklaaGreatDoor
end

/-
  CONTRACTS: the eight digits of a number's bits.
-/
section
set_option linter.unusedSimpArgs false
set_option linter.unusedVariables false
namespace Go.Proofs.YtianaalokclklaaGreatDoor
open Go.RowKit Go.Fl

theorem bytes_snoc (c : UInt8) (L : List UInt8) : Lib.byteCells (L ++ [c]) = Lib.byteCells L ++ [.int .u8 (c.toNat : Int)] := by unfold Lib.byteCells; simp
theorem brow_app {w wr w2 : World} {L : List UInt8} {c : UInt8} {o : Obj} {v v2 : Value} (hB : BRow w wr v L) (hown : w2.ownsRow w.heap.size 5 1 v2 (L.length + 1) (Lib.byteCells L ++ [.int .u8 (c.toNat : Int)])) (hg : (wr.alloc o).grownBy w2 v.ownBlock) : BRow w w2 v2 (L ++ [c]) := by
  obtain ⟨g, cap, rfl, h1, h2⟩ := hB
  rw [← bytes_snoc] at hown
  obtain ⟨g2, cap2, rfl⟩ := own_succ hown
  have hs := h2.size
  have hb : Below w.heap.size (wr.alloc o) w2 := (Below.refl _ _).grown hg (by simp; omega) (own_row h1)
  have e : (L ++ [c]).length = L.length + 1 := by simp
  exact ⟨g2, cap2, by rw [e], by rw [e]; exact hown, Below.trans (h2.alloc o) hb⟩
theorem i64_and15 (n : Int) : bits .and .i64 n 15 = n % 16 := by
  have h15 : (BitVec.ofInt 64 15).toNat = 2 ^ 4 - 1 := by decide
  have key : (BitVec.ofInt 64 n &&& BitVec.ofInt 64 15).toNat = (n % ((2 ^ 64 : Nat) : Int)).toNat % 2 ^ 4 := by
    rw [BitVec.toNat_and, BitVec.toNat_ofInt, h15, Nat.and_two_pow_sub_one_eq_mod]
  show IntKind.i64.wrap ((BitVec.ofInt 64 n &&& BitVec.ofInt 64 15).toNat : Nat) = n % 16
  rw [key, IntKind.wrap_i64]
  omega
theorem dig16 {d : Nat} (hd : d < 16) (h : d < (⟨#[48, 49, 50, 51, 52, 53, 54, 55, 56, 57, 97, 98, 99, 100, 101, 102]⟩ : ByteArray).size) :
    ((⟨#[48, 49, 50, 51, 52, 53, 54, 55, 56, 57, 97, 98, 99, 100, 101, 102]⟩ : ByteArray)[d]'h).toNat = (hexDg d).toNat := byte_at (l := hexTab) (k := d) (show d < 16 from hd)
theorem is32_lt {x X : Nat} (h : Is .f32 x X) : X < 4294967296 := by
  have h1 := is32_le h
  cases hn : fne .f32 X X with
  | true => rw [is_nan h hn]; decide +kernel
  | false => rw [← is_num h hn]; omega
set_option maxHeartbeats 1000000 in
theorem digits_any (w : World) (x X : Nat) (hx : Is .f32 x X) (ht : Tz w) : Calls Tryz.prog 47 #[.float .f32 x] w (StRet (hex8 X) w) := by
  have hX := is32_lt hx
  have hl := hexD_len 8 (by omega) (show X < 16 ^ 8 from hX)
  have hp := hex_pad 8 (by omega) (show X < 16 ^ 8 from hX)
  obtain ⟨D, hD⟩ : ∃ D, D = hexD X := ⟨_, rfl⟩
  rw [← hD] at hl hp
  obtain ⟨n, hn⟩ : ∃ n, n = D.length := ⟨_, rfl⟩
  obtain ⟨c, hc⟩ : ∃ c, c = 8 - n := ⟨_, rfl⟩
  rw [← hn] at hl hp
  rw [← hc] at hp
  have hsz : (⟨D.toArray⟩ : ByteArray).size = n := by rw [size_at, hn]
  have hrl : (List.replicate c (48 : UInt8)).length = c := by simp
  have hDn : D.length = n := hn.symm
  have hRp := Tryz.strings_Repeat ⟨#[48]⟩ c w
  replace hx := Lib.hid hx
  replace ht := Lib.hid ht
  replace hD := Lib.hid hD
  replace hp := Lib.hid hp
  clear hn hRp
  have hc8 : c ≤ 8 := by omega
  have hcI : (8 : Int) - (n : Int) = (c : Int) := by omega
  replace hc := Lib.hid hc
  go_enter Tryz.func47, Tryz.ntmps47
  go_wp2_with fail
  refine (iBitsOf_any x X hx.out w).mono ?_
  rintro e w1 ⟨rfl, rfl⟩
  go_wp2_with fail
  refine (fmt16 w X hX ht.out).mono ?_
  rintro e w1 ⟨rfl, hB⟩
  rw [← hD.out]
  replace hB := Lib.hid hB
  go_wp2_with fail
  have hR := Tryz.strings_Repeat ⟨#[48]⟩ c w1 (by omega) (by show 1 * c ≤ _; omega)
  rw [show (⟨#[48]⟩ : ByteArray).data.toList = [48] from rfl, repl48] at hR
  refine hR.mono ?_
  clear hR
  rintro e w2 ⟨rfl, hB2⟩
  replace hB := Lib.hid (hB.out.trans hB2)
  clear hB2
  go_wp2_with fail
  go_ret
  have e : ((⟨Array.replicate c 48⟩ : ByteArray) ++ ⟨D.toArray⟩) = ⟨(hex8 X).toArray⟩ := by
    rw [show hex8 X = List.replicate c 48 ++ D from hp.out.symm]
    apply ByteArray.ext
    simp
  exact ⟨congrArg (fun b => Ending.returned (.string b)) e, hB.out⟩
end Go.Proofs.YtianaalokclklaaGreatDoor
end

/-
  PLAIN LAWS: eight digits at base 16, read. (No program here.)
-/
section
set_option linter.unusedVariables false
set_option linter.unusedSimpArgs false
namespace Go.Fl
open Go Go.RowKit

/-- the digit that a byte is, or -1 -/
def hdig (c : UInt8) : Int := if 48 ≤ c.toNat ∧ c.toNat ≤ 57 then (c.toNat : Int) - 48 else if 97 ≤ c.toNat ∧ c.toNat ≤ 102 then (c.toNat : Int) - 97 + 10 else -1
def hstep (a : Nat) (c : UInt8) : Nat := 16 * a + (hdig c).toNat
def valH (l : List UInt8) : Nat := l.foldl hstep 0
def allH (l : List UInt8) : Bool := l.all fun c => decide (0 ≤ hdig c)
theorem valH_snoc (l : List UInt8) (c : UInt8) : valH (l ++ [c]) = 16 * valH l + (hdig c).toNat := by unfold valH; rw [List.foldl_append]; rfl
theorem hdig_dg : ∀ d : Fin 16, hdig (hexDg d.val) = (d.val : Int) := by decide
theorem hdig_lt (c : UInt8) : hdig c < 16 := by
  unfold hdig
  split
  · omega
  · split <;> omega
theorem dg_hdig {c : UInt8} (h : 0 ≤ hdig c) : hexDg (hdig c).toNat = c := by
  unfold hdig at *
  split at h
  · rename_i g
    rw [if_pos g]
    obtain ⟨d, hd⟩ : ∃ d, d = c.toNat - 48 := ⟨_, rfl⟩
    have e : ((c.toNat : Int) - 48).toNat = d := by omega
    have hc : c = UInt8.ofNat (48 + d) := UInt8.toNat_inj.1 (by rw [UInt8.toNat_ofNat']; omega)
    rw [e, hc]
    have : ∀ d : Fin 10, hexDg d.val = UInt8.ofNat (48 + d.val) := by decide
    exact this ⟨d, by omega⟩
  · rename_i g
    split at h
    · rename_i g2
      rw [if_neg g, if_pos g2]
      obtain ⟨d, hd⟩ : ∃ d, d = c.toNat - 97 := ⟨_, rfl⟩
      have e : ((c.toNat : Int) - 97 + 10).toNat = d + 10 := by omega
      have hc : c = UInt8.ofNat (97 + d) := UInt8.toNat_inj.1 (by rw [UInt8.toNat_ofNat']; omega)
      rw [e, hc]
      have : ∀ d : Fin 6, hexDg (d.val + 10) = UInt8.ofNat (97 + d.val) := by decide
      exact this ⟨d, by omega⟩
    · omega
theorem valH_hexK : ∀ k n, n < 16 ^ k → valH (hexK k n) = n
  | 0, n, h => by simp at h; subst h; rfl
  | k + 1, n, h => by
    rw [hexK, valH_snoc, valH_hexK k (n / 16) (by rw [Nat.pow_succ] at h; omega), hdig_dg ⟨n % 16, by omega⟩]
    show 16 * (n / 16) + ((n % 16 : Nat) : Int).toNat = n
    omega
theorem allH_hexK : ∀ k n, allH (hexK k n) = true
  | 0, _ => rfl
  | k + 1, n => by
    unfold allH
    rw [hexK, List.all_append, Bool.and_eq_true]
    refine ⟨allH_hexK k _, ?_⟩
    rw [List.all_cons, List.all_nil, Bool.and_true, decide_eq_true_eq, hdig_dg ⟨n % 16, by omega⟩]
    show (0 : Int) ≤ ((n % 16 : Nat) : Int)
    omega
theorem hexK_valH : ∀ (k : Nat) (l : List UInt8), l.length = k → allH l = true → l = hexK k (valH l) ∧ valH l < 16 ^ k
  | 0, l, h, _ => by rw [List.length_eq_zero_iff.1 h]; exact ⟨rfl, by decide⟩
  | k + 1, l, h, ha => by
    obtain ⟨m, c, rfl⟩ : ∃ m c, l = m ++ [c] := by
      rcases List.eq_nil_or_concat l with e | ⟨m, c, e⟩
      · rw [e] at h; cases h
      · exact ⟨m, c, by simpa using e⟩
    unfold allH at ha
    rw [List.all_append, Bool.and_eq_true, List.all_cons, List.all_nil, Bool.and_true, decide_eq_true_eq] at ha
    obtain ⟨h1, h2⟩ := hexK_valH k m (by simpa using h) ha.1
    have h3 := hdig_lt c
    have h4 := dg_hdig ha.2
    rw [valH_snoc, hexK, Nat.pow_succ]
    have e1 : (16 * valH m + (hdig c).toNat) / 16 = valH m := by omega
    have e2 : (16 * valH m + (hdig c).toNat) % 16 = (hdig c).toNat := by omega
    rw [e1, e2, ← h1, h4]
    exact ⟨rfl, by omega⟩
/-- the word whose digits a text is -/
def hexB (l : List UInt8) : Bool := decide (l.length = 8) && allH l && (cn .f32 (valH l) == valH l)
theorem hexB_iff {l : List UInt8} : hexB l = true ↔ ∃ X, X < 4294967296 ∧ cn .f32 X = X ∧ l = hex8 X := by
  unfold hexB
  rw [Bool.and_eq_true, Bool.and_eq_true, decide_eq_true_eq, beq_iff_eq]
  constructor
  · rintro ⟨⟨h1, h2⟩, h3⟩
    obtain ⟨g1, g2⟩ := hexK_valH 8 l h1 h2
    exact ⟨_, g2, h3, g1⟩
  · rintro ⟨X, h1, h2, rfl⟩
    have e := valH_hexK 8 X h1
    exact ⟨⟨hexK_len 8 X, allH_hexK 8 X⟩, by rw [e]; exact h2⟩
theorem valH_hex8 {X : Nat} (h : X < 4294967296) : valH (hex8 X) = X := valH_hexK 8 X h
theorem allH_at {l : List UInt8} (h : allH l = true) {k : Nat} (hk : k < l.length) : 0 ≤ hdig (l.getD k 0) := by
  unfold allH at h
  rw [List.all_eq_true] at h
  have := h (l.getD k 0) (by rw [List.getD_eq_getElem?_getD, List.getElem?_eq_getElem hk]; exact List.getElem_mem hk)
  simpa using this
theorem valH_take {l : List UInt8} {k : Nat} (h : k < l.length) : valH (l.take (k + 1)) = 16 * valH (l.take k) + (hdig (l.getD k 0)).toNat := by
  rw [List.take_add_one, List.getElem?_eq_getElem h, List.getD_eq_getElem?_getD, List.getElem?_eq_getElem h]
  exact valH_snoc _ _
theorem valH_bd : ∀ (l : List UInt8), valH l < 16 ^ l.length := by
  intro l
  induction h : l.length generalizing l with
  | zero => rw [List.length_eq_zero_iff.1 h]; decide
  | succ k ih =>
    obtain ⟨m, c, rfl⟩ : ∃ m c, l = m ++ [c] := by
      rcases List.eq_nil_or_concat l with e | ⟨m, c, e⟩
      · rw [e] at h; cases h
      · exact ⟨m, c, by simpa using e⟩
    rw [List.length_append] at h
    have := ih m (by simpa using h)
    have := hdig_lt c
    rw [valH_snoc, Nat.pow_succ]
    omega
end Go.Fl
end

/-
  CONTRACTS: a number at base 16 read, the library's.
-/
section
set_option linter.unusedSimpArgs false
set_option linter.unusedVariables false
namespace Go.Proofs.YtianaalokclklaaGreatDoor
open Go.RowKit Go.Fl

/-- a letter made small -/
def lo (B : Nat) : Nat := B ||| 32
theorem lo_lt {B : Nat} (h : B < 256) : lo B < 256 := Nat.or_lt_two_pow (n := 8) h (by decide)
theorem lo_same : ∀ d : Fin 6, lo (97 + d.val) = 97 + d.val := by decide
theorem lower_any (w : World) (B : Nat) (h : B < 256) : Calls Tryz.prog 111 #[.int .u8 (B : Int)] w (ERet (.int .u8 (lo B : Int)) w) := by
  have e1 : bits .or .u8 (B : Int) 32 = (lo B : Int) := u8_or_nat B 32 h (by decide)
  go_enter Tryz.func111, Tryz.ntmps111
  go_wp2_with fail
  go_ret
  exact ⟨rfl, rfl⟩
def PInv (l : List UInt8) (k a : Nat) : Prop := ∀ X, X < 4294967296 → l = hex8 X → a = valH (l.take k)
theorem hex_dig {l : List UInt8} {k X : Nat} (h : l = hex8 X) (hk : k < l.length) : 0 ≤ hdig (l.getD k 0) := allH_at (by rw [h]; exact allH_hexK 8 X) hk
theorem hdig_cases {c : UInt8} (h : 0 ≤ hdig c) : (48 ≤ c.toNat ∧ c.toNat ≤ 57 ∧ hdig c = (c.toNat : Int) - 48) ∨ (97 ≤ c.toNat ∧ c.toNat ≤ 102 ∧ lo c.toNat = c.toNat ∧ hdig c = (c.toNat : Int) - 97 + 10) := by
  unfold hdig at *
  split at h
  · rename_i g; rw [if_pos g]; exact .inl ⟨g.1, g.2, rfl⟩
  · rename_i g
    rw [if_neg g]
    split at h
    · rename_i g2
      rw [if_pos g2]
      refine .inr ⟨g2.1, g2.2, ?_, rfl⟩
      have := lo_same ⟨c.toNat - 97, by omega⟩
      rw [show 97 + (⟨c.toNat - 97, by omega⟩ : Fin 6).val = c.toNat by simp; omega] at this
      exact this
    · omega
theorem PInv.digit {l : List UInt8} {k a B : Nat} (h : PInv l k a) (hk : k < l.length) (hB : B = (l.getD k 0).toNat) (h1 : 48 ≤ B) (h2 : B ≤ 57) : PInv l (k + 1) (16 * a + (B - 48)) := by
  intro X hX e
  rw [valH_take hk, ← h X hX e]
  rcases hdig_cases (hex_dig e hk) with ⟨g1, g2, g3⟩ | ⟨g1, _⟩
  · rw [g3, ← hB]; omega
  · omega
theorem PInv.letter {l : List UInt8} {k a B : Nat} (h : PInv l k a) (hk : k < l.length) (hB : B = (l.getD k 0).toNat) (h1 : ¬ (48 ≤ B ∧ B ≤ 57)) : PInv l (k + 1) (16 * a + (lo B - 97 + 10)) := by
  intro X hX e
  rw [valH_take hk, ← h X hX e]
  rcases hdig_cases (hex_dig e hk) with ⟨g1, g2, g3⟩ | ⟨g1, g2, g3, g4⟩
  · omega
  · rw [g4, hB, g3]; omega
theorem PInv.bad {l : List UInt8} {k B : Nat} (hk : k < l.length) (hB : B = (l.getD k 0).toNat) (h1 : ¬ (48 ≤ B ∧ B ≤ 57)) (h2 : lo B < 97 ∨ 103 ≤ lo B) : ∀ X, X < 4294967296 → l = hex8 X → False := by
  intro X hX e
  rcases hdig_cases (hex_dig e hk) with ⟨g1, g2, g3⟩ | ⟨g1, g2, g3, g4⟩
  · omega
  · rw [hB, g3] at h2; omega
theorem PInv.big {l : List UInt8} {k a : Nat} (h : PInv l (k + 1) a) (hk : k < l.length) (ha : 4294967295 < a) : ∀ X, X < 4294967296 → l = hex8 X → False := by
  intro X hX e
  have h1 := h X hX e
  have h2 := valH_bd (l.take (k + 1))
  have h3 : l.length = 8 := by rw [e]; exact hexK_len 8 X
  have h4 : (l.take (k + 1)).length ≤ 8 := by rw [List.length_take]; omega
  have h5 : (16 : Nat) ^ (l.take (k + 1)).length ≤ 16 ^ 8 := Nat.pow_le_pow_right (by omega) h4
  have h6 : (16 : Nat) ^ 8 = 4294967296 := by decide
  omega
/-- what a reading at base 16 gives -/
def PURet (l : List UInt8) (w : World) (e : Ending) (w' : World) : Prop := ∃ (u : Nat) (er : Value), e = .returned (.tuple #[.int .u64 (u : Int), er]) ∧ u ≤ 18446744073709551615 ∧
  (er = .nilIface ∨ er = .iface 131 (.int .i64 1) ∨ er = .iface 131 (.int .i64 2)) ∧ (∀ X, X < 4294967296 → l = hex8 X → u = X ∧ er = .nilIface) ∧ Bel w w'
set_option maxRecDepth 100000 in
set_option maxHeartbeats 2000000 in
theorem pu_any (w : World) (l : List UInt8) (hl : l.length ≤ 1048576) : Calls Tryz.prog 94 #[.string ⟨l.toArray⟩, .int .i64 16, .int .i64 32] w (PURet l w) := by
  have hsz := size_at l
  obtain ⟨n, hn⟩ : ∃ n, n = l.length := ⟨_, rfl⟩
  have hn' := Lib.hid hn
  rw [← hn] at hsz hl
  have hcv := Lib.run_convert_string_bytes (P := Tryz.prog) w 9 22 5 ⟨l.toArray⟩ Tryz.underlying9 Tryz.underlying22 Tryz.underlying5
  rw [hsz] at hcv
  obtain ⟨w1, hw1⟩ : ∃ w1, w1 = Lib.bytesWorld w 5 ⟨l.toArray⟩ := ⟨_, rfl⟩
  obtain ⟨cap, hcap⟩ : ∃ cap, cap = grownCap w n 0 5 := ⟨_, rfl⟩
  rw [← hw1, ← hcap] at hcv
  have hb1 := Lib.hid (show Bel w w1 by rw [hw1]; exact Lib.bytesWorld_below _ _ _)
  have hcell := Lib.hid (show ∀ j, j < n → w1.cell? ⟨w.heap.size, j, none⟩ = some (.int .u8 ((l.getD j 0).toNat : Int)) from fun j hj => by rw [hw1]; exact Lib.bytesWorld_cell w _ ⟨l.toArray⟩ j (by rw [hsz]; exact hj))
  replace hcv := Lib.hid hcv
  clear hn hw1 hcap
  by_cases hn0 : n = 0
  · have hl0 : l = [] := List.length_eq_zero_iff.1 (by rw [← hn'.out, hn0])
    have hbad := Lib.hid (show ∀ X, X < 4294967296 → l = hex8 X → False from fun X hX e => by
      have := congrArg List.length e
      rw [hexK_len, hl0] at this; cases this)
    subst hn0
    clear hcell hcv hn'
    subst hl0
    go_enter Tryz.func94, Tryz.ntmps94
    go_wp2_with fail
    refine bodyPost_ret (v := .tuple #[.int .u64 0, .iface 131 (.int .i64 2)]) (by simp [results, Tryz.results94, go_sem]) rfl ?_
    exact ⟨0, _, rfl, by omega, .inr (.inr rfl), fun X hX e => (hbad.out X hX e).elim, Bel.refl _⟩
  · have hne : (l == ([] : List UInt8)) = false := by
      cases l with
      | nil => exact absurd hn'.out hn0
      | cons _ _ => rfl
    have hne2 : ¬ l = [] := by intro e; rw [e] at hne; cases hne
    go_enter Tryz.func94, Tryz.ntmps94
    go_wp2_with fail
    simp only [hcv.out, Result.andThen]
    clear hne hne2
    go_wp2_with fail
    go_loopw [12, 13, 101] (fun us nv iv wr => ∃ k a : Nat, us = .bool false ∧ nv = .int .u64 (a : Int) ∧ iv = .int .i64 (k : Int) ∧ k ≤ n ∧ a ≤ 4294967295 ∧ Hid (PInv l k a) ∧ w1 = wr) (fun _ _ iv _ => n - (intOf iv).toNat)
    case atStart => exact ⟨0, 0, rfl, rfl, rfl, by omega, by omega, Lib.hid (fun X hX e => rfl), rfl⟩
    case round =>
      obtain ⟨k, a, rfl, rfl, rfl, hk, ha, hI, rfl⟩ := hrel
      by_cases hlt : k < n
      · have h1 := hcell.out k hlt
        have hkl := Lib.hid (show k < l.length by have := hn'.out; omega)
        obtain ⟨B, hB⟩ : ∃ B, B = (l.getD k 0).toNat := ⟨_, rfl⟩
        rw [← hB] at h1
        have hB256 : B < 256 := by rw [hB]; exact (l.getD k 0).toNat_lt
        by_cases hd1 : 48 ≤ B ∧ B ≤ 57
        · have hN := Lib.hid (hI.out.digit hkl.out hB hd1.1 hd1.2)
          obtain ⟨hd1, hd2⟩ := hd1
          have h95 : ((B : Int) == 95) = false := by simp; omega
          replace hB := Lib.hid hB
          obtain ⟨d, hd⟩ : ∃ d, d = B - 48 := ⟨_, rfl⟩
          have hdI : (B : Int) - 48 = (d : Int) := by omega
          have hd10 : d < 10 := by omega
          have hB48 : (48 : Int) ≤ (B : Int) := by omega
          have hB57 : (B : Int) ≤ 57 := by omega
          rw [← hd] at hN
          replace hd := Lib.hid hd
          have hcut1 : ¬ ((1152921504606846976 : Int) ≤ (a : Int)) := by omega
          have hcut2 : decide ((1152921504606846976 : Int) ≤ (a : Int)) = false := decide_eq_false hcut1
          have hw1 : IntKind.u64.wrap ((a : Int) * 16) = (a : Int) * 16 := by rw [IntKind.wrap_u64]; omega
          have hw2 : IntKind.u64.wrap ((a : Int) * 16 + (d : Int)) = (a : Int) * 16 + (d : Int) := by rw [IntKind.wrap_u64]; omega
          have hlt1 : ¬ ((a : Int) * 16 + (d : Int) < (a : Int) * 16) := by omega
          have hlt2 : decide ((a : Int) * 16 + (d : Int) < (a : Int) * 16) = false := decide_eq_false hlt1
          have hd16 : ¬ ((16 : Int) ≤ (d : Int)) := by omega
          clear hd1 hd2 ha hd10
          by_cases hbig : 4294967295 < 16 * a + d
          · have hbad := Lib.hid (hN.out.big hkl.out hbig)
            have hbigI : (4294967295 : Int) < (a : Int) * 16 + (d : Int) := by omega
            have hbigJ := decide_eq_true hbigI
            clear hbig
            go_wp2_with fail
            refine bodyPost_ret (v := .tuple #[.int .u64 4294967295, .iface 131 (.int .i64 1)]) (by simp [results, Tryz.results94, go_sem]) rfl ?_
            exact ⟨4294967295, _, rfl, by omega, .inr (.inl rfl), fun X hX e => (hbad.out X hX e).elim, hb1.out⟩
          · have hbigI : ¬ (4294967295 : Int) < (a : Int) * 16 + (d : Int) := by omega
            have hbigJ := decide_eq_false hbigI
            clear hbig
            go_wp2_with fail
            refine ⟨⟨k + 1, 16 * a + d, rfl, by congr 1; omega, by simp, by omega, by omega, hN, trivial⟩, ?_⟩
            show n - (((k : Nat) : Int) + 1).toNat < n - ((k : Nat) : Int).toNat
            omega
        · have h95 : (false && false) = false := rfl
          obtain ⟨L, hL⟩ : ∃ L, L = lo B := ⟨_, rfl⟩
          have hL256 : L < 256 := by rw [hL]; exact lo_lt hB256
          have hLow := Lib.hid (fun w => lower_any w B hB256)
          rw [← hL] at hLow
          have hNl := Lib.hid (hI.out.letter hkl.out hB hd1)
          have hBd := Lib.hid (PInv.bad hkl.out hB hd1)
          rw [← hL] at hNl hBd
          have hl95 : B = 95 → L = 127 := fun e => by rw [hL, e]; decide
          replace hB := Lib.hid hB
          replace hL := Lib.hid hL
          have hsp : B < 48 ∨ 57 < B := by omega
          clear hd1 hB256 h95
          by_cases hlet : 97 ≤ L ∧ L ≤ 122
          · obtain ⟨hl1, hl2⟩ := hlet
            have h95i : ((B : Int) == 95) = false := by
              have : B ≠ 95 := fun e => by have := hl95 e; omega
              simp; omega
            clear hl95
            obtain ⟨f, hf⟩ : ∃ f, f = L - 97 := ⟨_, rfl⟩
            obtain ⟨d, hd⟩ : ∃ d, d = f + 10 := ⟨_, rfl⟩
            have hfI : (L : Int) - 97 = (f : Int) := by omega
            have hdI : (f : Int) + 10 = (d : Int) := by omega
            have hl97 : (97 : Int) ≤ (L : Int) := by omega
            have hl122 : (L : Int) ≤ 122 := by omega
            rw [← hf, ← hd] at hNl
            have hd35 : d ≤ 35 := by omega
            by_cases hd16 : d < 16
            · have hfin := Lib.hid (show d < 16 ∧ a ≤ 4294967295 from ⟨hd16, ha⟩)
              clear hd16 hf hd ha hl1 hl2
              rcases hsp with h48 | h57
              all_goals
                go_wp2_with fail
                refine (hLow.out _).mono ?_
                rintro e w' ⟨rfl, rfl⟩
                go_wp2_with fail
                refine (hLow.out _).mono ?_
                rintro e w' ⟨rfl, rfl⟩
                go_wp2_with fail
                refine (hLow.out _).mono ?_
                rintro e w' ⟨rfl, rfl⟩
                obtain ⟨hd16, ha⟩ := hfin.out
                have hcut1 : ¬ ((1152921504606846976 : Int) ≤ (a : Int)) := by omega
                have hcut2 : decide ((1152921504606846976 : Int) ≤ (a : Int)) = false := decide_eq_false hcut1
                have hw1 : IntKind.u64.wrap ((a : Int) * 16) = (a : Int) * 16 := by rw [IntKind.wrap_u64]; omega
                have hw2 : IntKind.u64.wrap ((a : Int) * 16 + (d : Int)) = (a : Int) * 16 + (d : Int) := by rw [IntKind.wrap_u64]; omega
                have hlt1 : ¬ ((a : Int) * 16 + (d : Int) < (a : Int) * 16) := by omega
                have hlt2 : decide ((a : Int) * 16 + (d : Int) < (a : Int) * 16) = false := decide_eq_false hlt1
                have hd16i : ¬ ((16 : Int) ≤ (d : Int)) := by omega
                by_cases hbig : 4294967295 < 16 * a + d
                · have hbad := Lib.hid (hNl.out.big hkl.out hbig)
                  have hbigI : (4294967295 : Int) < (a : Int) * 16 + (d : Int) := by omega
                  have hbigJ := decide_eq_true hbigI
                  clear hbig ha hd16 hd35
                  simp only []
                  repeat (first | go_skip | go_guarded | go_step | go_upon)
                  refine bodyPost_ret (v := .tuple #[.int .u64 4294967295, .iface 131 (.int .i64 1)]) (by simp [results, Tryz.results94, go_sem]) rfl ?_
                  exact ⟨4294967295, _, rfl, by omega, .inr (.inl rfl), fun X hX e => (hbad.out X hX e).elim, hb1.out⟩
                · have hbigI : ¬ (4294967295 : Int) < (a : Int) * 16 + (d : Int) := by omega
                  have hbigJ := decide_eq_false hbigI
                  clear hbig ha hd16 hd35
                  simp only []
                  repeat (first | go_skip | go_guarded | go_step | go_upon)
                  refine ⟨⟨k + 1, 16 * a + d, rfl, by congr 1; omega, by simp, by omega, by omega, hNl, trivial⟩, ?_⟩
                  show n - (((k : Nat) : Int) + 1).toNat < n - ((k : Nat) : Int).toNat
                  omega
            · have hbad := Lib.hid (hBd.out (.inr (by omega)))
              have hd16i : (16 : Int) ≤ (d : Int) := by omega
              clear hd16 hf hd ha hl1 hl2
              rcases hsp with h48 | h57
              all_goals
                go_wp2_with (go_at_call 111; refine (hLow.out _).mono ?_; rintro e w' ⟨rfl, rfl⟩)
                refine bodyPost_ret (v := .tuple #[.int .u64 0, .iface 131 (.int .i64 2)]) (by simp [results, Tryz.results94, go_sem]) rfl ?_
                exact ⟨0, _, rfl, by omega, .inr (.inr rfl), fun X hX e => (hbad.out X hX e).elim, hb1.out⟩
          · have hbad := Lib.hid (hBd.out (by omega))
            have hsq : L < 97 ∨ 122 < L := by omega
            clear hlet ha
            by_cases h95 : B = 95
            · obtain rfl := hl95 h95
              subst h95
              have hLow' := Lib.hid (show ∀ w, Calls Tryz.prog 111 #[.int .u8 95] w (ERet (.int .u8 127) w) from hLow.out)
              clear hl95 hsq hsp hLow
              go_wp2_with (go_at_call 111; refine (hLow'.out _).mono ?_; rintro e w' ⟨rfl, rfl⟩)
              refine bodyPost_ret (v := .tuple #[.int .u64 0, .iface 131 (.int .i64 2)]) (by simp [results, Tryz.results94, go_sem]) rfl ?_
              exact ⟨0, _, rfl, by omega, .inr (.inr rfl), fun X hX e => (hbad.out X hX e).elim, hb1.out⟩
            have h95i : ((B : Int) == 95) = false := by simp; omega
            clear hl95 h95
            rcases hsp with h48 | h57
            all_goals
              rcases hsq with h97 | h122
              all_goals
                go_wp2_with (go_at_call 111; refine (hLow.out _).mono ?_; rintro e w' ⟨rfl, rfl⟩)
                refine bodyPost_ret (v := .tuple #[.int .u64 0, .iface 131 (.int .i64 2)]) (by simp [results, Tryz.results94, go_sem]) rfl ?_
                exact ⟨0, _, rfl, by omega, .inr (.inr rfl), fun X hX e => (hbad.out X hX e).elim, hb1.out⟩
      · obtain rfl : k = n := by omega
        have hfin := Lib.hid (show ∀ X, X < 4294967296 → l = hex8 X → a = X from fun X hX e => by rw [hI.out X hX e, hn'.out, List.take_length, e, valH_hex8 hX])
        have ha' := Lib.hid (show a ≤ 18446744073709551615 by omega)
        clear ha
        go_wp2_with fail
        refine bodyPost_ret (v := .tuple #[.int .u64 (a : Int), .nilIface]) (by simp [results, Tryz.results94, go_sem]) rfl ?_
        exact ⟨a, _, rfl, ha'.out, .inl rfl, fun X hX e => ⟨hfin.out X hX e, rfl⟩, hb1.out⟩
end Go.Proofs.YtianaalokclklaaGreatDoor
end

/-
  PLAIN LAWS: a text cut at each comma. (No program here.)
-/
section
set_option linter.unusedVariables false
set_option linter.unusedSimpArgs false
namespace Go.Fl
open Go Go.RowKit

/-- the pieces, of which the first begins with 'cur' -/
def pc (c : UInt8) (cur : List UInt8) : List UInt8 → List (List UInt8)
  | [] => [cur]
  | b :: l => if b = c then cur :: pc c [] l else pc c (cur ++ [b]) l
theorem pc_ne (c : UInt8) : ∀ (l cur : List UInt8), pc c cur l ≠ []
  | [], cur => by simp [pc]
  | b :: l, cur => by
    rw [pc]
    split
    · simp
    · exact pc_ne c l _
/-- what follows of the first place of the byte -/
theorem pc_index (c : UInt8) : ∀ (l cur : List UInt8), (Lib.index l [c] = -1 → pc c cur l = [cur ++ l]) ∧ (∀ i : Nat, Lib.index l [c] = i → pc c cur l = (cur ++ l.take i) :: pc c [] (l.drop (i + 1)) ∧ i < l.length)
  | [], cur => by
    refine ⟨fun _ => by simp [pc], fun i h => ?_⟩
    simp [Lib.index] at h
  | b :: l, cur => by
    by_cases hb : b = c
    · subst hb
      have hix : Lib.index (b :: l) [b] = ((0 : Nat) : Int) := by rw [Lib.index]; simp [List.isPrefixOf]
      refine ⟨fun h => by rw [hix] at h; omega, fun i h => ?_⟩
      rw [hix] at h
      obtain rfl : i = 0 := by omega
      simp [pc]
    · have hp : ([c] : List UInt8).isPrefixOf (b :: l) = false := by simp [List.isPrefixOf, Ne.symm hb]
      have hix : Lib.index (b :: l) [c] = if Lib.index l [c] == -1 then -1 else Lib.index l [c] + 1 := by rw [Lib.index, hp]; simp
      obtain ⟨h1, h2⟩ := pc_index c l (cur ++ [b])
      have hge := Lib.index_ge l [c]
      refine ⟨fun h => ?_, fun i h => ?_⟩
      · rw [hix] at h
        by_cases hm : Lib.index l [c] = -1
        · rw [pc, if_neg hb, h1 hm]; simp
        · rw [if_neg (by simpa using hm)] at h; omega
      · rw [hix] at h
        by_cases hm : Lib.index l [c] = -1
        · rw [if_pos (by simpa using hm)] at h; omega
        · rw [if_neg (by simpa using hm)] at h
          obtain ⟨j, rfl⟩ : ∃ j, i = j + 1 := ⟨i - 1, by omega⟩
          obtain ⟨g1, g2⟩ := h2 j (by omega)
          refine ⟨?_, by simp; omega⟩
          rw [pc, if_neg hb, g1]
          simp
theorem pc_split (c : UInt8) : ∀ (n : Nat) (l : List UInt8), l.length ≤ n → Lib.splitK [c] 0 (Lib.count l [c]) l = pc c [] l
  | 0, l, h => by
    obtain rfl := List.length_eq_zero_iff.1 (Nat.le_zero.1 h)
    rw [Lib.count_miss (by simp [Lib.index])]
    simp [Lib.splitK, pc]
  | n + 1, l, h => by
    obtain ⟨h1, h2⟩ := pc_index c l []
    by_cases hm : Lib.index l [c] = -1
    · rw [Lib.count_miss hm, h1 hm]; simp [Lib.splitK]
    · have hge := Lib.index_ge l [c]
      obtain ⟨i, hi⟩ : ∃ i : Nat, Lib.index l [c] = i := ⟨(Lib.index l [c]).toNat, by omega⟩
      obtain ⟨g1, g2⟩ := h2 i hi
      have e1 : ([c] : List UInt8).length = 1 := rfl
      rw [Lib.count_hit (by simp) hi, g1, Nat.add_comm 1, Lib.splitK, if_neg (by simpa using hm), hi, e1]
      have e2 : ((i : Nat) : Int).toNat = i := by omega
      rw [e2, pc_split c n (l.drop (i + 1)) (by rw [List.length_drop]; omega)]
      simp
/-- the pieces -/
abbrev pcs (l : List UInt8) : List (List UInt8) := pc 44 [] l
theorem pcs_splitB (l : List UInt8) : (Lib.splitB ⟨#[44]⟩ 0 (Lib.countB ⟨l.toArray⟩ ⟨#[44]⟩) ⟨l.toArray⟩) = (pcs l).map fun x => ⟨x.toArray⟩ := by
  have h := Lib.splitB_data ⟨#[44]⟩ 0 (Lib.countB ⟨l.toArray⟩ ⟨#[44]⟩) ⟨l.toArray⟩
  have e : Lib.splitK (⟨#[44]⟩ : ByteArray).data.toList 0 (Lib.countB ⟨l.toArray⟩ ⟨#[44]⟩) (⟨l.toArray⟩ : ByteArray).data.toList = pcs l := pc_split 44 l.length l (Nat.le_refl _)
  rw [e] at h
  rw [← h, List.map_map]
  conv => lhs; rw [← List.map_id (Lib.splitB _ _ _ _)]
  refine List.map_congr_left fun x _ => ?_
  obtain ⟨⟨y⟩⟩ := x
  rfl
theorem pcs_count (l : List UInt8) : Lib.countB ⟨l.toArray⟩ ⟨#[44]⟩ + 1 = (pcs l).length := by
  have h := Lib.splitB_all ⟨#[44]⟩ (by decide) 0 _ ⟨l.toArray⟩ rfl
  rw [pcs_splitB, List.length_map] at h
  exact h.symm
theorem pc_len (c : UInt8) : ∀ (l cur : List UInt8), (pc c cur l).length ≤ l.length + 1
  | [], cur => by simp [pc]
  | b :: l, cur => by
    rw [pc]
    split
    · have := pc_len c l []; simp; omega
    · have := pc_len c l (cur ++ [b]); simp; omega
theorem pc_sub (c : UInt8) : ∀ (l cur : List UInt8), ∀ x ∈ pc c cur l, x.length ≤ cur.length + l.length
  | [], cur, x, h => by
    simp [pc] at h; subst h; simp
  | b :: l, cur, x, h => by
    rw [pc] at h
    split at h
    · rcases List.mem_cons.1 h with rfl | h
      · omega
      · have := pc_sub c l [] x h; simp at this ⊢; omega
    · have := pc_sub c l _ x h; simp at this ⊢; omega
/-- the loop of the cut: 'm' pieces are laid, the next begins at 'f', the eye is at 'k' -/
structure CInv (l : List UInt8) (m f k : Nat) : Prop where
  fk : f ≤ k
  kn : k ≤ l.length
  eq : (pcs l).drop m = pc 44 ((l.take k).drop f) (l.drop k)
theorem CInv.start (l : List UInt8) : CInv l 0 0 0 := ⟨Nat.le_refl _, Nat.zero_le _, by simp⟩
theorem drop_cons {α : Type} {P r : List α} {m : Nat} {x : α} (h : P.drop m = x :: r) : m < P.length ∧ P[m]? = some x ∧ P.drop (m + 1) = r := by
  have h1 : m < P.length := by
    rcases Nat.lt_or_ge m P.length with g | g
    · exact g
    · rw [List.drop_eq_nil_of_le g] at h; cases h
  refine ⟨h1, ?_, ?_⟩
  · rw [← List.head?_drop, h]; rfl
  · rw [← List.tail_drop, h]; rfl
theorem cur_len {l : List UInt8} {f k : Nat} (hk : k ≤ l.length) : ((l.take k).drop f).length = k - f := by
  rw [List.length_drop, List.length_take]; omega
theorem CInv.hit {l : List UInt8} {m f k : Nat} (h : CInv l m f k) (hk : k < l.length) (hc : l.getD k 0 = 44) : m < (pcs l).length ∧ (pcs l)[m]? = some ((l.take k).drop f) ∧ CInv l (m + 1) (k + 1) (k + 1) := by
  have e := h.eq
  rw [List.drop_eq_getElem_cons hk, pc, if_pos (by rw [List.getD_eq_getElem?_getD, List.getElem?_eq_getElem hk] at hc; exact hc)] at e
  obtain ⟨h1, h2, h3⟩ := drop_cons e
  refine ⟨h1, h2, Nat.le_refl _, hk, ?_⟩
  have e9 : (l.take (k + 1)).drop (k + 1) = [] := List.drop_eq_nil_of_le (by rw [List.length_take]; omega)
  rw [h3, e9]
theorem CInv.miss {l : List UInt8} {m f k : Nat} (h : CInv l m f k) (hk : k < l.length) (hc : l.getD k 0 ≠ 44) : CInv l m f (k + 1) := by
  have e := h.eq
  rw [List.drop_eq_getElem_cons hk, pc, if_neg (by rw [List.getD_eq_getElem?_getD, List.getElem?_eq_getElem hk] at hc; exact hc)] at e
  refine ⟨by have := h.fk; omega, hk, ?_⟩
  rw [e, List.take_add_one, List.getElem?_eq_getElem hk, List.drop_append_of_le_length (by rw [List.length_take]; have := h.fk; omega)]
  rfl
theorem CInv.last {l : List UInt8} {m f k : Nat} (h : CInv l m f k) (hk : k = l.length) : m + 1 = (pcs l).length ∧ (pcs l)[m]? = some ((l.take k).drop f) := by
  have e := h.eq
  have e9 : l.drop k = [] := List.drop_eq_nil_of_le (by omega)
  rw [e9, pc] at e
  obtain ⟨h1, h2, h3⟩ := drop_cons e
  refine ⟨?_, h2⟩
  have := congrArg List.length h3
  rw [List.length_drop] at this
  simp at this
  omega
/-- the reading of a list -/
def noneB (l : List UInt8) : Bool := l == [110, 111, 110, 101]
def pieceN (l : List UInt8) : Nat → List UInt8 := fun i => (pcs l).getD i []
def readB (l : List UInt8) : Bool := noneB l || (decide ((pcs l).length ≤ 64) && allB (fun i => decB (pieceN l i)) (pcs l).length)
def readN (l : List UInt8) : Nat := if readB l && !noneB l then (pcs l).length else 0
abbrev readZ (l : List UInt8) : Nat → Int := fun i => valS (pieceN l i)
theorem piece_len (l : List UInt8) (i : Nat) : (pieceN l i).length ≤ l.length := by
  unfold pieceN
  rw [List.getD_eq_getElem?_getD]
  cases h : (pcs l)[i]? with
  | none => simp
  | some x =>
    have := pc_sub 44 l [] x (List.mem_of_getElem? h)
    simpa using this
theorem piece_at {l : List UInt8} {i : Nat} {x : List UInt8} (h : (pcs l)[i]? = some x) : pieceN l i = x := by
  unfold pieceN; rw [List.getD_eq_getElem?_getD, h]; rfl
end Go.Fl
end

/-
  CONTRACTS: a text cut at its commas; a list read, the reference's.
-/
section
set_option linter.unusedSimpArgs false
set_option linter.unusedVariables false
namespace Go.Proofs.YtianaalokclklaaGreatDoor
open Go.RowKit Go.Fl

theorem extract_at (l : List UInt8) (f k : Nat) : (⟨l.toArray⟩ : ByteArray).extract f k = ⟨((l.take k).drop f).toArray⟩ := by
  apply ByteArray.ext
  apply Array.toList_inj.1
  rw [Lib.extract_data]
  simp [List.drop_take]
/-- the block of the pieces -/
structure PBlk (wr : World) (g N : Nat) (f : Nat → List UInt8) (cs : Array Value) : Prop where
  heap : wr.heap[g]? = some (.cells cs 9 (0, 0))
  at' : ∀ j, j < N → cs[j]? = some (.string ⟨(f j).toArray⟩)
theorem PBlk.cell {wr : World} {g N : Nat} {f : Nat → List UInt8} {cs : Array Value} (h : PBlk wr g N f cs) {j : Nat} (hj : j < N) : wr.cell? ⟨g, j, none⟩ = some (.string ⟨(f j).toArray⟩) := by
  unfold World.cell?; simp [h.heap, h.at' j hj]
theorem PBlk.lt {wr : World} {g N : Nat} {f : Nat → List UInt8} {cs : Array Value} (h : PBlk wr g N f cs) : g < wr.heap.size := (Array.getElem?_eq_some_iff.1 h.heap).1
theorem PBlk.bel {wr w2 : World} {g N : Nat} {f : Nat → List UInt8} {cs : Array Value} (h : PBlk wr g N f cs) (hb : Bel wr w2) : PBlk w2 g N f cs := ⟨by rw [hb.block g h.lt]; exact h.heap, h.at'⟩
theorem LRow.blk {w wr : World} {v : Value} {f : Nat → List UInt8} {k : Nat} (h : LRow w wr v f k) : ∃ g cap cs, v = .slice (some ⟨g, 0, none⟩) k cap ∧ w.heap.size ≤ g ∧ PBlk wr g k f cs := by
  obtain ⟨g, cap, rfl, h1, h2⟩ := h
  have hc := (LRow.cells h1).1
  rcases h1.2 with ⟨e, _⟩ | ⟨g2, cap2, cur, e, hb, h3, _⟩
  · cases e
  · cases e
    refine ⟨g, cap, cur, rfl, hb, h3, fun j hj => ?_⟩
    have := hc j hj
    unfold World.cell? at this
    simpa [h3] using this
theorem LRow.b {w wr : World} {v : Value} {f : Nat → List UInt8} {k : Nat} (h : LRow w wr v f k) : Bel w wr := by
  obtain ⟨_, _, _, _, hb⟩ := h
  exact hb
def ints (z : Nat → Int) (k : Nat) : List Value := (List.range k).map fun i => .int .i64 (z i)
theorem ints_succ (z : Nat → Int) (k : Nat) : ints z (k + 1) = ints z k ++ [.int .i64 (z k)] := by unfold ints; rw [List.range_succ]; simp
theorem ints_at (z : Nat → Int) {k j : Nat} (h : j < k) : (ints z k)[j]? = some (.int .i64 (z j)) := by simp [ints, h]
/-- a row of integers of the call's own -/
def IRw (w wr : World) (v : Value) (z : Nat → Int) (k : Nat) : Prop := ∃ g cap, v = .slice (some ⟨g, 0, none⟩) k cap ∧ wr.ownsRow w.heap.size 2 1 v k (ints z k) ∧ Bel w wr
theorem IRw.bel {w wr w1 : World} {v : Value} {z : Nat → Int} {k : Nat} (h : IRw w wr v z k) (hb : Bel wr w1) : IRw w w1 v z k := by
  obtain ⟨g, cap, rfl, h1, h2⟩ := h
  exact ⟨g, cap, rfl, own_belx (bs := none) h1 (BelX.of hb) (by intro j hj; cases hj), h2.trans hb⟩
theorem IRw.start (w : World) (z : Nat → Int) : IRw w (w.alloc (.cells #[] 2)) (.slice (some ⟨w.heap.size, 0, none⟩) 0 0) z 0 :=
  ⟨_, _, rfl, World.ownsRow_made w #[] 0 (Nat.le_refl _) (by unfold maxLen; omega) rfl, (Bel.refl w).alloc _⟩
theorem IRw.next {w wr w2 : World} {v v2 : Value} {z : Nat → Int} {k : Nat} {o : Obj} (h : IRw w wr v z k) (hown : w2.ownsRow w.heap.size 2 1 v2 (k + 1) (ints z k ++ [.int .i64 (z k)])) (hg : (wr.alloc o).grownBy w2 v.ownBlock) : IRw w w2 v2 z (k + 1) := by
  obtain ⟨g, cap, rfl, h1, h2⟩ := h
  rw [← ints_succ] at hown
  obtain ⟨g2, cap2, rfl⟩ := own_succ hown
  have hs := h2.size
  have hb : Below w.heap.size (wr.alloc o) w2 := (Below.refl _ _).grown hg (by simp; omega) (own_row h1)
  exact ⟨g2, cap2, rfl, hown, Below.trans (h2.alloc o) hb⟩
theorem PBlk.next {w wr w2 : World} {v : Value} {z : Nat → Int} {k g N : Nat} {o : Obj} {f : Nat → List UInt8} {cs : Array Value} (h : PBlk wr g N f cs) (hI : IRw w wr v z k) (hg : (wr.alloc o).grownBy w2 v.ownBlock) : PBlk w2 g N f cs := by
  obtain ⟨g1, cap, rfl, h1, h2⟩ := hI
  refine ⟨grown_keep (w1 := wr.alloc o) (o := .cells cs 9 (0, 0)) ?_ ?_ hg (own_far h1 (by decide) h.heap), h.at'⟩
  · rw [((Bel.refl wr).alloc o).block g h.lt]; exact h.heap
  · have := h.lt; simp; omega
theorem IRw.done {w wr : World} {v : Value} {z : Nat → Int} {k : Nat} (h : IRw w wr v z k) (hz : ∀ i, i < k → (Lit.int .i64 (z i)).wf = true) : ∃ ao c, v = .slice ao k c ∧ IORow w.heap.size wr.heap.size wr ao k z := by
  obtain ⟨g, cap, rfl, h1, h2⟩ := h
  refine ⟨_, cap, rfl, ⟨fun hn => ⟨g, 0, rfl, (World.ownsRow.lt h1 g rfl).2, fun i hi => ?_⟩, hz⟩, fun a ha => ?_⟩
  · have := World.ownsRow.cells h1 rfl i _ (ints_at z hi)
    rw [Nat.zero_add]
    unfold Addr.add at this
    simp at this
    split at this
    · rename_i h0; rw [h0]; rw [h0] at this; exact this
    · exact this
  · cases ha
    rcases h1.2 with ⟨e, _⟩ | ⟨g2, cap2, cur, e, hb, h3, _⟩
    · cases e
    · cases e
      have hl := (Array.getElem?_eq_some_iff.1 h3).1
      exact ⟨hb, hl, hl, cells_free h3⟩
/-- the list whose text a text is -/
def RLRet (l : List UInt8) (w : World) (e : Ending) (w' : World) : Prop := ∃ ao c, e = .returned (.tuple #[.slice ao (readN l) c, .bool (readB l)]) ∧ IORow w.heap.size w'.heap.size w' ao (readN l) (readZ l) ∧ Bel w w'
theorem none_row {lo hi : Nat} (w : World) (z : Nat → Int) : IORow lo hi w none 0 z := ⟨⟨fun h => absurd h (by omega), fun i h => absurd h (by omega)⟩, fun a h => by cases h⟩
theorem RLRet.no {l : List UInt8} {w w' : World} (h : readB l = false) (hb : Bel w w') : RLRet l w (.returned (.tuple #[.slice none 0 0, .bool false])) w' := by
  have e : readN l = 0 := by unfold readN; rw [h]; rfl
  refine ⟨none, 0, by rw [e, h], ?_, hb⟩
  rw [e]; exact none_row _ _
theorem RLRet.yes {l : List UInt8} {w w' : World} {v : Value} {k : Nat} (h : readB l = true) (hk : readN l = k) (hI : IRw w w' v (readZ l) k) (hz : ∀ i, i < k → (Lit.int .i64 (readZ l i)).wf = true) : RLRet l w (.returned (.tuple #[v, .bool true])) w' := by
  obtain ⟨ao, c, rfl, hO⟩ := hI.done hz
  obtain ⟨_, _, _, _, hb⟩ := hI
  subst hk
  exact ⟨ao, c, by rw [h], hO, hb⟩
theorem none_cmp (l : List UInt8) : (ByteArray.toList ⟨l.toArray⟩ == ByteArray.toList ⟨#[110, 111, 110, 101]⟩) = noneB l := by rw [toList_at, show (⟨#[110, 111, 110, 101]⟩ : ByteArray).toList = [110, 111, 110, 101] from toList_at [110, 111, 110, 101]]; rfl
theorem dec_wf {l : List UInt8} (h : decB l = true) : (Lit.int .i64 (valS l)).wf = true := by
  unfold decB at h
  rw [Bool.and_eq_true] at h
  have := inD_iff.1 h.1
  unfold Lit.wf
  rw [Bool.and_eq_true, decide_eq_true_eq, decide_eq_true_eq]
  exact ⟨by show (-9223372036854775808 : Int) ≤ _; omega, by show _ ≤ (9223372036854775807 : Int); omega⟩
end Go.Proofs.YtianaalokclklaaGreatDoor
end

/-
  THE LAW 'FnExactReadList': its contracts and its walk.
-/
section
set_option linter.unusedSimpArgs false
set_option linter.unusedVariables false
namespace Go.Proofs.YtianaalokclklaaGreatDoor
open Go.RowKit Go.Fl

/-- a variable of the library that the cut reads -/
def MaxL (w : World) : Prop := ∃ m, w.cell? ⟨4, 0, none⟩ = some (.int .i64 m)
theorem maxl_bel {w w' : World} (h : MaxL w) (hb : Bel w w') : MaxL w' := by
  obtain ⟨m, hm⟩ := h
  exact ⟨m, (hb.cell (lt_of_cell hm)).trans hm⟩
theorem split_any (w : World) (l : List UInt8) (hl : l.length ≤ 1048576) (hM : MaxL w) :
    Calls Tryz.prog 76 #[.string ⟨l.toArray⟩, .string ⟨#[44]⟩] w (fun e w' => ∃ cs, e = .returned (.slice (some ⟨w.heap.size, 0, none⟩) (pcs l).length (pcs l).length) ∧ PBlk w' w.heap.size (pcs l).length (pieceN l) cs ∧ Bel w w') := by
  obtain ⟨m, hm⟩ := hM
  refine (Tryz.strings_Split ⟨l.toArray⟩ ⟨#[44]⟩ m w (by rw [size_at]; omega) hm (by decide)).mono ?_
  rintro e w' ⟨rfl, rfl⟩
  rw [pcs_splitB, pcs_count]
  refine ⟨_, rfl, ⟨heap_alloc_new w _, fun j hj => ?_⟩, (Bel.refl w).alloc _⟩
  obtain ⟨x, hx⟩ : ∃ x, (pcs l)[j]? = some x := ⟨_, List.getElem?_eq_getElem hj⟩
  rw [piece_at hx]
  simp [hx]
def Fx3 (w : World) : Prop := Errs w ∧ Tab w ∧ MaxL w
theorem fx_bel {a b : World} (h : Fx3 a) (hb : Bel a b) : Fx3 b := ⟨errs_bel h.1 hb, tab_bel h.2.1 hb, maxl_bel h.2.2 hb⟩
end Go.Proofs.YtianaalokclklaaGreatDoor
end

/-
  CONTRACTS: the eight digits of a number read, the program's; a text parted at its commas.
-/
section
set_option linter.unusedSimpArgs false
set_option linter.unusedVariables false
namespace Go.Proofs.YtianaalokclklaaGreatDoor
open Go.RowKit Go.Fl

/-- what the library's reading at base 16 and 32 bits gives -/
def PBRet (l : List UInt8) (w : World) (e : Ending) (w' : World) : Prop := ∃ (u : Nat) (er : Value), e = .returned (.tuple #[.int .u64 (u : Int), er]) ∧ u ≤ 18446744073709551615 ∧
  (er = .nilIface ∨ ∃ t p, er = .iface t p) ∧ (∀ X, X < 4294967296 → l = hex8 X → u = X ∧ er = .nilIface) ∧ Bel w w'
set_option maxHeartbeats 1000000 in
theorem parseU_any (w : World) (l : List UInt8) (hl : l.length ≤ 1048576) (he : Errs w) : Calls Tryz.prog 77 #[.string ⟨l.toArray⟩, .int .i64 16, .int .i64 32] w (PBRet l w) := by
  have hsz := size_at l
  have he' := Lib.hid he
  have hl' := Lib.hid hl
  clear he hl
  go_enter Tryz.func77, Tryz.ntmps77
  go_wp2_with fail
  refine (pu_any w l hl'.out).mono ?_
  rintro e w1 ⟨u, er, rfl, hu, her, hX, hB⟩
  have hu' := Lib.hid hu
  have hX' := Lib.hid hX
  have hB' := Lib.hid hB
  have he1 := Lib.hid (errs_bel he'.out hB)
  clear hu hX hB
  rcases her with rfl | her
  · go_wp2_with fail
    refine bodyPost_ret (v := .tuple #[.int .u64 (u : Int), .nilIface]) (by simp [results, Tryz.results77, go_sem]) rfl ?_
    exact ⟨u, _, rfl, hu'.out, .inl rfl, fun X hX e => ⟨(hX'.out X hX e).1, rfl⟩, hB'.out⟩
  have hbad := Lib.hid (show ∀ X, X < 4294967296 → l = hex8 X → False from fun X hX e => by
    have h := (hX'.out X hX e).2
    rcases her with rfl | rfl <;> cases h)
  clear hX'
  rcases her with rfl | rfl
  · go_wp2_with fail
    obtain ⟨_, t, p, h2⟩ := he1.out
    refine (Tryz.strconv_toError_range _ _ _ _ (.iface t p) w1 (by rw [hsz]; have := hl'.out; omega) (by have h0 := World.var?_cell gER h2 0; simpa using h0) (.inr ⟨_, _, rfl⟩)).mono ?_
    clear h2
    rintro e w2 ⟨N, rfl, _, _, hB2⟩
    replace hB' := Lib.hid (hB'.out.trans hB2)
    clear hB2
    go_wp2_with fail
    refine bodyPost_ret (v := .tuple #[.int .u64 (u : Int), .iface 134 (.pointer (some ⟨N, 0, none⟩))]) (by simp [results, Tryz.results77, go_sem]) rfl ?_
    exact ⟨u, _, rfl, hu'.out, .inr ⟨_, _, rfl⟩, fun X hX e => (hbad.out X hX e).elim, hB'.out⟩
  · go_wp2_with fail
    obtain ⟨⟨t, p, h2⟩, _⟩ := he1.out
    refine (Tryz.strconv_toError_syntax _ _ _ _ (.iface t p) w1 (by rw [hsz]; have := hl'.out; omega) (by have h0 := World.var?_cell gES h2 0; simpa using h0) (.inr ⟨_, _, rfl⟩)).mono ?_
    clear h2
    rintro e w2 ⟨N, rfl, _, _, hB2⟩
    replace hB' := Lib.hid (hB'.out.trans hB2)
    clear hB2
    go_wp2_with fail
    refine bodyPost_ret (v := .tuple #[.int .u64 (u : Int), .iface 134 (.pointer (some ⟨N, 0, none⟩))]) (by simp [results, Tryz.results77, go_sem]) rfl ?_
    exact ⟨u, _, rfl, hu'.out, .inr ⟨_, _, rfl⟩, fun X hX e => (hbad.out X hX e).elim, hB'.out⟩
/-- what a reading of eight digits gives -/
def RDRet (l : List UInt8) (w : World) (e : Ending) (w' : World) : Prop := ∃ r X, e = .returned (.tuple #[.float .f32 r, .bool (hexB l)]) ∧ Is .f32 r X ∧ (hexB l = true → X = valH l) ∧ Bel w w'
theorem hexB_hex8 {l : List UInt8} {m : Nat} (hm : m < 4294967296) : hex8 (cn .f32 m) = l → hexB l = true ∧ cn .f32 m = valH l := by
  intro h
  have hc : cn .f32 m < 4294967296 := is32_lt (⟨by rw [w32]; exact hm, rfl⟩ : Is .f32 m (cn .f32 m))
  refine ⟨hexB_iff.2 ⟨_, hc, cn_cn .f32 m, h.symm⟩, ?_⟩
  rw [← h, valH_hex8 hc]
set_option maxHeartbeats 1000000 in
theorem readDigits_any (w : World) (l : List UInt8) (hl : l.length ≤ 1048576) (he : Errs w) (ht : Tz w) : Calls Tryz.prog 50 #[.string ⟨l.toArray⟩] w (RDRet l w) := by
  have he' := Lib.hid he
  have ht' := Lib.hid ht
  have hl' := Lib.hid hl
  clear he ht hl
  go_enter Tryz.func50, Tryz.ntmps50
  go_wp2_with fail
  refine (parseU_any w l hl'.out he'.out).mono ?_
  rintro e w1 ⟨u, er, rfl, hu, her, hX, hB⟩
  have hX' := Lib.hid hX
  have hB' := Lib.hid hB
  have ht1 := Lib.hid (tz_bel ht'.out hB)
  clear hX hB
  obtain ⟨m, hm⟩ : ∃ m, m = u % 4294967296 := ⟨_, rfl⟩
  have hm32 : m < 4294967296 := by omega
  have hw : IntKind.u32.wrap (u : Int) = (m : Int) := by rw [IntKind.wrap_u32]; omega
  have hmu := Lib.hid (show u < 4294967296 → m = u by omega)
  have hi := Lib.hid (show Is .f32 m (cn .f32 m) from ⟨by rw [w32]; exact hm32, rfl⟩)
  have hm' := Lib.hid hm32
  clear hm hm32
  rcases her with rfl | ⟨t, p, rfl⟩
  · cases hr : (hex8 (cn .f32 m) == l) with
    | false =>
      have hcmp : (ByteArray.toList ⟨(hex8 (cn .f32 m)).toArray⟩ == ByteArray.toList ⟨l.toArray⟩) = false := by rw [toList_at, toList_at]; exact hr
      have hcmp2 : ¬ hex8 (cn .f32 m) = l := by simpa using hr
      have hd := Lib.hid (show hexB l = false by
        cases hd : hexB l with
        | false => rfl
        | true =>
          obtain ⟨X, h1, h2, h3⟩ := hexB_iff.1 hd
          obtain ⟨g1, _⟩ := hX'.out X h1 h3
          have g2 := hmu.out (by omega)
          exact absurd (by rw [g2, g1, h2, h3]) hcmp2)
      go_wp2_with fail
      refine (digits_any _ _ _ hi.out ht1.out).mono ?_
      rintro e w2 ⟨rfl, hB2⟩
      replace hB' := Lib.hid (hB'.out.trans hB2)
      clear hB2
      go_wp2_with fail
      refine bodyPost_ret (v := .tuple #[.float .f32 m, .bool false]) (by simp [results, Tryz.results50, go_sem]) rfl ?_
      exact ⟨m, _, by rw [hd.out], hi.out, (fun e => by rw [hd.out] at e; cases e), hB'.out⟩
    | true =>
      have hcmp2 : hex8 (cn .f32 m) = l := by simpa using hr
      obtain ⟨d1, d2⟩ := hexB_hex8 hm'.out hcmp2
      replace d1 := Lib.hid d1
      replace d2 := Lib.hid d2
      replace hcmp2 := Lib.hid hcmp2
      clear hr
      go_wp2_with fail
      refine (digits_any _ _ _ hi.out ht1.out).mono ?_
      rintro e w2 ⟨rfl, hB2⟩
      rw [hcmp2.out]
      replace hB' := Lib.hid (hB'.out.trans hB2)
      clear hB2
      go_wp2_with fail
      refine bodyPost_ret (v := .tuple #[.float .f32 m, .bool true]) (by simp [results, Tryz.results50, go_sem]) rfl ?_
      exact ⟨m, _, by rw [d1.out], hi.out, fun _ => d2.out, hB'.out⟩
  · have hd := Lib.hid (show hexB l = false by
      cases hd : hexB l with
      | false => rfl
      | true =>
        obtain ⟨X, h1, h2, h3⟩ := hexB_iff.1 hd
        have := (hX'.out X h1 h3).2
        cases this)
    go_wp2_with fail
    refine bodyPost_ret (v := .tuple #[.float .f32 m, .bool false]) (by simp [results, Tryz.results50, go_sem]) rfl ?_
    exact ⟨m, _, by rw [hd.out], hi.out, (fun e => by rw [hd.out] at e; cases e), hB'.out⟩
/-- a text parted at its commas -/
def APRet (l : List UInt8) (w : World) (e : Ending) (w' : World) : Prop := ∃ g cs, e = .returned (.tuple #[.slice (some ⟨g, 0, none⟩) (pcs l).length (pcs l).length, .bool (decide ((pcs l).length ≤ 256))]) ∧ PBlk w' g (pcs l).length (pieceN l) cs ∧ Bel w w'
theorem apart_none (w : World) : Calls Tryz.prog 49 #[.string ⟨#[110, 111, 110, 101]⟩] w (ERet (.tuple #[.slice none 0 0, .bool true]) w) := by
  go_enter Tryz.func49, Tryz.ntmps49
  go_wp2_with fail
  refine bodyPost_ret (v := .tuple #[.slice none 0 0, .bool true]) (by simp [results, Tryz.results49, go_sem]) rfl ?_
  exact ⟨rfl, rfl⟩
theorem apart_any (w : World) (l : List UInt8) (hl : l.length ≤ 1048576) (hM : MaxL w) (hq : noneB l = false) : Calls Tryz.prog 49 #[.string ⟨l.toArray⟩] w (APRet l w) := by
  have hM' := Lib.hid hM
  have hcmp : (l == [110, 111, 110, 101]) = false := hq
  have hcmp2 : ¬ l = [110, 111, 110, 101] := by unfold noneB at hq; simpa using hq
  clear hM hq
  have hl' := Lib.hid hl
  obtain ⟨N, hN⟩ : ∃ N, N = (pcs l).length := ⟨_, rfl⟩
  have hNl : N ≤ 1048577 := by rw [hN]; exact Nat.le_trans (pc_len 44 l []) (by omega)
  replace hN := Lib.hid hN
  clear hl
  by_cases h256 : N ≤ 256
  · have hd := Lib.hid (decide_eq_true h256)
    go_enter Tryz.func49, Tryz.ntmps49
    go_wp2_with fail
    refine (split_any _ l hl'.out hM'.out).mono ?_
    rintro e w1 ⟨cs, rfl, hPB, hB1⟩
    rw [← hN.out] at hPB ⊢
    replace hPB := Lib.hid hPB
    replace hB1 := Lib.hid hB1
    go_wp2_with fail
    refine bodyPost_ret (v := .tuple #[.slice (some ⟨w.heap.size, 0, none⟩) N N, .bool true]) (by simp [results, Tryz.results49, go_sem]; omega) rfl ?_
    unfold APRet
    rw [← hN.out, hd.out]
    exact ⟨_, cs, rfl, hPB.out, hB1.out⟩
  · have hd := Lib.hid (decide_eq_false h256)
    go_enter Tryz.func49, Tryz.ntmps49
    go_wp2_with fail
    refine (split_any _ l hl'.out hM'.out).mono ?_
    rintro e w1 ⟨cs, rfl, hPB, hB1⟩
    rw [← hN.out] at hPB ⊢
    replace hPB := Lib.hid hPB
    replace hB1 := Lib.hid hB1
    go_wp2_with fail
    refine bodyPost_ret (v := .tuple #[.slice (some ⟨w.heap.size, 0, none⟩) N N, .bool false]) (by simp [results, Tryz.results49, go_sem]; omega) rfl ?_
    unfold APRet
    rw [← hN.out, hd.out]
    exact ⟨_, cs, rfl, hPB.out, hB1.out⟩
end Go.Proofs.YtianaalokclklaaGreatDoor
end

/-
  CONTRACTS: Go's math on 64-bit words: Signbit, Abs; sameness; subnormal numbers; from bits.
-/
section
set_option linter.unusedSimpArgs false
namespace Go.Proofs.YtianaalokclklaaGreatDoor
open Go.RowKit Go.Fl

theorem is_of_num {k : FloatKind} {x X : Nat} (h : Is k x X) (hn : isn k X = false) : x = X := by
  have h1 : isn k x = false := by rw [← isn_cn, h.2]; exact hn
  rw [← h.2, cn_of_not h1]

theorem Signbit_any (x : Nat) (hx : (x : Int) ≤ 18446744073709551615) (w : World) : Calls Tryz.prog 81 #[.float .f64 x] w fun e w' => e = .returned (.bool (decide (9223372036854775808 ≤ x))) ∧ w = w' := by
  go_enter Tryz.func81, Tryz.ntmps81
  go_wp2
  go_ret
  exact ⟨ret_bool (by rw [Bool.eq_iff_iff, decide_eq_true_eq, decide_eq_true_eq]; unfold wrap64; omega), rfl⟩
theorem Abs_any (x : Nat) (hx : (x : Int) ≤ 18446744073709551615) (w : World) : Calls Tryz.prog 65 #[.float .f64 x] w fun e w' => e = .returned (.float .f64 (x % 9223372036854775808)) ∧ w = w' := by
  have e : (bits BinOp.andNot IntKind.u64 (x : Int) 9223372036854775808).toNat = x % 9223372036854775808 := by
    have h := u64_andNot_nat x 9223372036854775808 (by omega) (by omega)
    rw [show ((9223372036854775808 : Nat) : Int) = 9223372036854775808 from rfl] at h
    rw [h, Int.toNat_natCast]
    exact Nat.and_two_pow_sub_one_eq_mod x 63
  go_enter Tryz.func65, Tryz.ntmps65
  go_wp2
  go_ret
  exact ⟨rfl, rfl⟩
theorem same3 {x X y Y r s : Nat} (hx : Is .f32 x X) (hy : Is .f32 y Y) (hr : Is .f64 r (wid X)) (hs : Is .f64 s (wid Y)) (h1 : ¬ fne .f32 X X = true) (h2 : fne .f32 Y Y = false) (h3 : feq .f32 X Y = true) :
    (decide (9223372036854775808 ≤ r) == decide (9223372036854775808 ≤ s)) = (X == Y) := by
  have n1 : isn .f32 X = false := num_of_fne (by simpa using h1)
  have n2 : isn .f32 Y = false := num_of_fne h2
  have l := same_law hx.can hy.can n1 n2
  rw [h3, Bool.true_and] at l
  rw [is_of_num hr (wid_num (can32_lt hx.can) n1), is_of_num hs (wid_num (can32_lt hy.can) n2)]
  exact l
theorem same4 {X Y : Nat} (h1 : ¬ fne .f32 X X = true) (_h2 : fne .f32 Y Y = false) (h3 : ¬ feq .f32 X Y = true) : false = (X == Y) := by
  symm
  rw [beq_eq_false_iff_ne]
  rintro rfl
  exact h3 ((feq_iff _ _ _).2 ⟨num_of_fne (by simpa using h1), num_of_fne (by simpa using h1), rfl⟩)
theorem Absf_any (x X : Nat) (hx : Is .f64 x X) (w : World) : Calls Tryz.prog 65 #[.float .f64 x] w fun e w' => ∃ r, e = .returned (.float .f64 r) ∧ Is .f64 r (fabs X) ∧ w = w' :=
  (Abs_any x (is64_le hx) w).mono fun _ _ ⟨he, hw⟩ => ⟨_, he, fabs_is hx, hw⟩
set_option maxHeartbeats 400000 in
theorem iSameNumber_any (x X y Y : Nat) (hx : Is .f32 x X) (hy : Is .f32 y Y) (w : World) : Calls Tryz.prog 60 #[.float .f32 x, .float .f32 y] w (VRet (.bool (X == Y)) w) := by
  go_enter Tryz.func60, Tryz.ntmps60
  go_wp2_with (first | (go_at_call 81; refine (Signbit_any _ (is64_le (by assumption)) _).mono ?_; rintro e w' ⟨rfl, rfl⟩) | ((with_reducible refine wpList_here ?_); (first | ((with_reducible refine wpList_feq (k := ?_) (bx := ?_) (by' := ?_) (X := ?_) (Y := ?_) ?_ ?_ ?_ ?_ ?_ ?_); rotate_left 5; (first | (with_reducible exact wanted_none) | ((with_reducible refine wanted_some ?_); rfl)); (rfl); (rfl); (first | assumption | ((refine Is.lit ?_); decide +kernel) | (refine Is.ofInt _ _)); (first | assumption | ((refine Is.lit ?_); decide +kernel) | (refine Is.ofInt _ _)); (try simp only [Act.put, List.setIfInBounds_toArray, List.set_cons_succ, List.set_cons_zero, World.drewN_drewN])) | ((with_reducible refine wpList_fne (k := ?_) (bx := ?_) (by' := ?_) (X := ?_) (Y := ?_) ?_ ?_ ?_ ?_ ?_ ?_); rotate_left 5; (first | (with_reducible exact wanted_none) | ((with_reducible refine wanted_some ?_); rfl)); (rfl); (rfl); (first | assumption | ((refine Is.lit ?_); decide +kernel) | (refine Is.ofInt _ _)); (first | assumption | ((refine Is.lit ?_); decide +kernel) | (refine Is.ofInt _ _)); (try simp only [Act.put, List.setIfInBounds_toArray, List.set_cons_succ, List.set_cons_zero, World.drewN_drewN])) | ((with_reducible refine wpList_flt (k := ?_) (bx := ?_) (by' := ?_) (X := ?_) (Y := ?_) ?_ ?_ ?_ ?_ ?_ ?_); rotate_left 5; (first | (with_reducible exact wanted_none) | ((with_reducible refine wanted_some ?_); rfl)); (rfl); (rfl); (first | assumption | ((refine Is.lit ?_); decide +kernel) | (refine Is.ofInt _ _)); (first | assumption | ((refine Is.lit ?_); decide +kernel) | (refine Is.ofInt _ _)); (try simp only [Act.put, List.setIfInBounds_toArray, List.set_cons_succ, List.set_cons_zero, World.drewN_drewN])) | ((with_reducible refine wpList_fle (k := ?_) (bx := ?_) (by' := ?_) (X := ?_) (Y := ?_) ?_ ?_ ?_ ?_ ?_ ?_); rotate_left 5; (first | (with_reducible exact wanted_none) | ((with_reducible refine wanted_some ?_); rfl)); (rfl); (rfl); (first | assumption | ((refine Is.lit ?_); decide +kernel) | (refine Is.ofInt _ _)); (first | assumption | ((refine Is.lit ?_); decide +kernel) | (refine Is.ofInt _ _)); (try simp only [Act.put, List.setIfInBounds_toArray, List.set_cons_succ, List.set_cons_zero, World.drewN_drewN])) | ((with_reducible refine wpList_fgt (k := ?_) (bx := ?_) (by' := ?_) (X := ?_) (Y := ?_) ?_ ?_ ?_ ?_ ?_ ?_); rotate_left 5; (first | (with_reducible exact wanted_none) | ((with_reducible refine wanted_some ?_); rfl)); (rfl); (rfl); (first | assumption | ((refine Is.lit ?_); decide +kernel) | (refine Is.ofInt _ _)); (first | assumption | ((refine Is.lit ?_); decide +kernel) | (refine Is.ofInt _ _)); (try simp only [Act.put, List.setIfInBounds_toArray, List.set_cons_succ, List.set_cons_zero, World.drewN_drewN])) | ((with_reducible refine wpList_fge (k := ?_) (bx := ?_) (by' := ?_) (X := ?_) (Y := ?_) ?_ ?_ ?_ ?_ ?_ ?_); rotate_left 5; (first | (with_reducible exact wanted_none) | ((with_reducible refine wanted_some ?_); rfl)); (rfl); (rfl); (first | assumption | ((refine Is.lit ?_); decide +kernel) | (refine Is.ofInt _ _)); (first | assumption | ((refine Is.lit ?_); decide +kernel) | (refine Is.ofInt _ _)); (try simp only [Act.put, List.setIfInBounds_toArray, List.set_cons_succ, List.set_cons_zero, World.drewN_drewN])) | ((with_reducible refine wpList_widen Tryz.underlying28 Tryz.underlying46 (bx := ?_) (X := ?_) ?_ ?_ ?_ ?_); rotate_left 2; (first | (with_reducible exact wanted_none) | ((with_reducible refine wanted_some ?_); rfl)); (rfl); (first | assumption | ((refine Is.lit ?_); decide +kernel) | (refine Is.ofInt _ _)); (intro r nd hr); (try simp only [Act.put, List.setIfInBounds_toArray, List.set_cons_succ, List.set_cons_zero, World.drewN_drewN])))))
  all_goals go_ret
  all_goals first
    | exact ⟨ret_bool (sf1 hx.can hy.can (by assumption)), by repeat (first | exact Dr.refl _ | apply Dr.drewN)⟩
    | exact ⟨ret_bool (sf2 (by assumption) (by assumption)), by repeat (first | exact Dr.refl _ | apply Dr.drewN)⟩
    | exact ⟨ret_bool (same3 hx hy (by assumption) (by assumption) (by assumption) (by assumption) (by assumption)), by repeat (first | exact Dr.refl _ | apply Dr.drewN)⟩
    | exact ⟨ret_bool (same4 (by assumption) (by assumption) (by assumption)), by repeat (first | exact Dr.refl _ | apply Dr.drewN)⟩
theorem ret_t2 {k : FloatKind} {r r' : Nat} {b b' : Bool} (h : r = r') (g : b = b') : Ending.returned (.tuple #[.float k r, .bool b]) = .returned (.tuple #[.float k r', .bool b']) := by rw [h, g]
def bitsOk (n : Int) : Bool := decide (0 ≤ n) && decide (n ≤ 4294967295)
def FBpost (n : Int) (w : World) (e : Ending) (w' : World) : Prop := e = .returned (.tuple #[.float .f32 (if bitsOk n then n.toNat else 0), .bool (bitsOk n)]) ∧ w = w'
theorem iFromBits_any (n : Int) (w : World) : Calls Tryz.prog 20 #[.int .i64 n] w (FBpost n w) := by
  by_cases h0 : 0 ≤ n
  · by_cases h1 : n ≤ 4294967295
    · have he := Lib.hid (show bitsOk n = true by simp [bitsOk, h0, h1])
      go_enter Tryz.func20, Tryz.ntmps20
      go_wp2
      go_ret2
      exact ⟨ret_t2 (by rw [he.out]; rfl) he.out.symm, rfl⟩
    · have he := Lib.hid (show bitsOk n = false by simp [bitsOk, h1])
      go_enter Tryz.func20, Tryz.ntmps20
      go_wp2
      go_ret2
      exact ⟨ret_t2 (by rw [he.out]; rfl) he.out.symm, rfl⟩
  · have he := Lib.hid (show bitsOk n = false by simp [bitsOk, h0])
    go_enter Tryz.func20, Tryz.ntmps20
    go_wp2
    go_ret2
    exact ⟨ret_t2 (by rw [he.out]; rfl) he.out.symm, rfl⟩
def subn (X : Nat) : Bool := fne .f32 X 0 && decide (X &&& 2139095040 = 0)
set_option maxHeartbeats 400000 in
theorem iIsSubnormal_any (x X : Nat) (hx : Is .f32 x X) (w : World) : Calls Tryz.prog 33 #[.float .f32 x] w (VRet (.bool (subn X)) w) := by
  go_enter Tryz.func33, Tryz.ntmps33
  go_wp2_with (first | (go_at_call 65; refine (Absf_any _ _ (by assumption) _).mono ?_; rintro e w' ⟨r, rfl, hr, rfl⟩) | ((with_reducible refine wpList_here ?_); (first | ((with_reducible refine wpList_feq (k := ?_) (bx := ?_) (by' := ?_) (X := ?_) (Y := ?_) ?_ ?_ ?_ ?_ ?_ ?_); rotate_left 5; (first | (with_reducible exact wanted_none) | ((with_reducible refine wanted_some ?_); rfl)); (rfl); (rfl); (first | assumption | ((refine Is.lit ?_); decide +kernel) | (refine Is.ofInt _ _)); (first | assumption | ((refine Is.lit ?_); decide +kernel) | (refine Is.ofInt _ _)); (try simp only [Act.put, List.setIfInBounds_toArray, List.set_cons_succ, List.set_cons_zero, World.drewN_drewN])) | ((with_reducible refine wpList_fne (k := ?_) (bx := ?_) (by' := ?_) (X := ?_) (Y := ?_) ?_ ?_ ?_ ?_ ?_ ?_); rotate_left 5; (first | (with_reducible exact wanted_none) | ((with_reducible refine wanted_some ?_); rfl)); (rfl); (rfl); (first | assumption | ((refine Is.lit ?_); decide +kernel) | (refine Is.ofInt _ _)); (first | assumption | ((refine Is.lit ?_); decide +kernel) | (refine Is.ofInt _ _)); (try simp only [Act.put, List.setIfInBounds_toArray, List.set_cons_succ, List.set_cons_zero, World.drewN_drewN])) | ((with_reducible refine wpList_flt (k := ?_) (bx := ?_) (by' := ?_) (X := ?_) (Y := ?_) ?_ ?_ ?_ ?_ ?_ ?_); rotate_left 5; (first | (with_reducible exact wanted_none) | ((with_reducible refine wanted_some ?_); rfl)); (rfl); (rfl); (first | assumption | ((refine Is.lit ?_); decide +kernel) | (refine Is.ofInt _ _)); (first | assumption | ((refine Is.lit ?_); decide +kernel) | (refine Is.ofInt _ _)); (try simp only [Act.put, List.setIfInBounds_toArray, List.set_cons_succ, List.set_cons_zero, World.drewN_drewN])) | ((with_reducible refine wpList_fle (k := ?_) (bx := ?_) (by' := ?_) (X := ?_) (Y := ?_) ?_ ?_ ?_ ?_ ?_ ?_); rotate_left 5; (first | (with_reducible exact wanted_none) | ((with_reducible refine wanted_some ?_); rfl)); (rfl); (rfl); (first | assumption | ((refine Is.lit ?_); decide +kernel) | (refine Is.ofInt _ _)); (first | assumption | ((refine Is.lit ?_); decide +kernel) | (refine Is.ofInt _ _)); (try simp only [Act.put, List.setIfInBounds_toArray, List.set_cons_succ, List.set_cons_zero, World.drewN_drewN])) | ((with_reducible refine wpList_fgt (k := ?_) (bx := ?_) (by' := ?_) (X := ?_) (Y := ?_) ?_ ?_ ?_ ?_ ?_ ?_); rotate_left 5; (first | (with_reducible exact wanted_none) | ((with_reducible refine wanted_some ?_); rfl)); (rfl); (rfl); (first | assumption | ((refine Is.lit ?_); decide +kernel) | (refine Is.ofInt _ _)); (first | assumption | ((refine Is.lit ?_); decide +kernel) | (refine Is.ofInt _ _)); (try simp only [Act.put, List.setIfInBounds_toArray, List.set_cons_succ, List.set_cons_zero, World.drewN_drewN])) | ((with_reducible refine wpList_fge (k := ?_) (bx := ?_) (by' := ?_) (X := ?_) (Y := ?_) ?_ ?_ ?_ ?_ ?_ ?_); rotate_left 5; (first | (with_reducible exact wanted_none) | ((with_reducible refine wanted_some ?_); rfl)); (rfl); (rfl); (first | assumption | ((refine Is.lit ?_); decide +kernel) | (refine Is.ofInt _ _)); (first | assumption | ((refine Is.lit ?_); decide +kernel) | (refine Is.ofInt _ _)); (try simp only [Act.put, List.setIfInBounds_toArray, List.set_cons_succ, List.set_cons_zero, World.drewN_drewN])) | ((with_reducible refine wpList_widen Tryz.underlying28 Tryz.underlying46 (bx := ?_) (X := ?_) ?_ ?_ ?_ ?_); rotate_left 2; (first | (with_reducible exact wanted_none) | ((with_reducible refine wanted_some ?_); rfl)); (rfl); (first | assumption | ((refine Is.lit ?_); decide +kernel) | (refine Is.ofInt _ _)); (intro r nd hr); (try simp only [Act.put, List.setIfInBounds_toArray, List.set_cons_succ, List.set_cons_zero, World.drewN_drewN])))))
  all_goals go_ret
  · exact ⟨ret_bool (by unfold subn; rw [show fne .f32 X 0 = true by assumption, Bool.true_and, subnormal_law hx.can]), (by repeat (first | exact Dr.refl _ | apply Dr.drewN))⟩
  · exact ⟨ret_bool (by unfold subn; rw [show fne .f32 X 0 = false by simpa using (show ¬ fne .f32 X 0 = true by assumption), Bool.false_and]), (by repeat (first | exact Dr.refl _ | apply Dr.drewN))⟩
end Go.Proofs.YtianaalokclklaaGreatDoor
end

/-
  CONTRACTS: finite numbers; flushed numbers; square roots.
-/
section
set_option linter.unusedSimpArgs false
namespace Go.Proofs.YtianaalokclklaaGreatDoor
open Go.RowKit Go.Fl

theorem fret_lit {k : FloatKind} {b : Nat} {w : World} (h : (decide (b < 2 ^ k.format.width) && !isn k b) = true) : FRet k b w (.returned (.float k b)) w := ⟨b, rfl, Is.lit h, Dr.refl _⟩

theorem NaN_any (w : World) : Calls Tryz.prog 66 #[] w (FRet .f64 (qn .f64) w) := by
  go_enter Tryz.func66, Tryz.ntmps66
  go_wp2
  go_ret
  exact ⟨_, rfl, ⟨by decide +kernel, by decide +kernel⟩, Dr.refl _⟩
theorem IsNaN_any (x X : Nat) (hx : Is .f64 x X) (w : World) : Calls Tryz.prog 96 #[.float .f64 x] w fun e w' => e = .returned (.bool (fne .f64 X X)) ∧ w = w' := by
  go_enter Tryz.func96, Tryz.ntmps96
  go_wp2_with (first | ((with_reducible refine wpList_here ?_); (first | ((with_reducible refine wpList_feq (k := ?_) (bx := ?_) (by' := ?_) (X := ?_) (Y := ?_) ?_ ?_ ?_ ?_ ?_ ?_); rotate_left 5; (first | (with_reducible exact wanted_none) | ((with_reducible refine wanted_some ?_); rfl)); (rfl); (rfl); (first | assumption | ((refine Is.lit ?_); decide +kernel) | (refine Is.ofInt _ _)); (first | assumption | ((refine Is.lit ?_); decide +kernel) | (refine Is.ofInt _ _)); (try simp only [Act.put, List.setIfInBounds_toArray, List.set_cons_succ, List.set_cons_zero, World.drewN_drewN])) | ((with_reducible refine wpList_fne (k := ?_) (bx := ?_) (by' := ?_) (X := ?_) (Y := ?_) ?_ ?_ ?_ ?_ ?_ ?_); rotate_left 5; (first | (with_reducible exact wanted_none) | ((with_reducible refine wanted_some ?_); rfl)); (rfl); (rfl); (first | assumption | ((refine Is.lit ?_); decide +kernel) | (refine Is.ofInt _ _)); (first | assumption | ((refine Is.lit ?_); decide +kernel) | (refine Is.ofInt _ _)); (try simp only [Act.put, List.setIfInBounds_toArray, List.set_cons_succ, List.set_cons_zero, World.drewN_drewN])) | ((with_reducible refine wpList_flt (k := ?_) (bx := ?_) (by' := ?_) (X := ?_) (Y := ?_) ?_ ?_ ?_ ?_ ?_ ?_); rotate_left 5; (first | (with_reducible exact wanted_none) | ((with_reducible refine wanted_some ?_); rfl)); (rfl); (rfl); (first | assumption | ((refine Is.lit ?_); decide +kernel) | (refine Is.ofInt _ _)); (first | assumption | ((refine Is.lit ?_); decide +kernel) | (refine Is.ofInt _ _)); (try simp only [Act.put, List.setIfInBounds_toArray, List.set_cons_succ, List.set_cons_zero, World.drewN_drewN])) | ((with_reducible refine wpList_fle (k := ?_) (bx := ?_) (by' := ?_) (X := ?_) (Y := ?_) ?_ ?_ ?_ ?_ ?_ ?_); rotate_left 5; (first | (with_reducible exact wanted_none) | ((with_reducible refine wanted_some ?_); rfl)); (rfl); (rfl); (first | assumption | ((refine Is.lit ?_); decide +kernel) | (refine Is.ofInt _ _)); (first | assumption | ((refine Is.lit ?_); decide +kernel) | (refine Is.ofInt _ _)); (try simp only [Act.put, List.setIfInBounds_toArray, List.set_cons_succ, List.set_cons_zero, World.drewN_drewN])) | ((with_reducible refine wpList_fgt (k := ?_) (bx := ?_) (by' := ?_) (X := ?_) (Y := ?_) ?_ ?_ ?_ ?_ ?_ ?_); rotate_left 5; (first | (with_reducible exact wanted_none) | ((with_reducible refine wanted_some ?_); rfl)); (rfl); (rfl); (first | assumption | ((refine Is.lit ?_); decide +kernel) | (refine Is.ofInt _ _)); (first | assumption | ((refine Is.lit ?_); decide +kernel) | (refine Is.ofInt _ _)); (try simp only [Act.put, List.setIfInBounds_toArray, List.set_cons_succ, List.set_cons_zero, World.drewN_drewN])) | ((with_reducible refine wpList_fge (k := ?_) (bx := ?_) (by' := ?_) (X := ?_) (Y := ?_) ?_ ?_ ?_ ?_ ?_ ?_); rotate_left 5; (first | (with_reducible exact wanted_none) | ((with_reducible refine wanted_some ?_); rfl)); (rfl); (rfl); (first | assumption | ((refine Is.lit ?_); decide +kernel) | (refine Is.ofInt _ _)); (first | assumption | ((refine Is.lit ?_); decide +kernel) | (refine Is.ofInt _ _)); (try simp only [Act.put, List.setIfInBounds_toArray, List.set_cons_succ, List.set_cons_zero, World.drewN_drewN])))))
  go_ret
  exact ⟨rfl, rfl⟩
theorem IsInf0_any (x X : Nat) (hx : Is .f64 x X) (w : World) : Calls Tryz.prog 97 #[.float .f64 x, .int .i64 0] w fun e w' => e = .returned (.bool (fgt .f64 (fabs X) 9218868437227405311)) ∧ w = w' := by
  go_enter Tryz.func97, Tryz.ntmps97
  go_wp2_with (first | (go_at_call 65; refine (Absf_any _ _ (by assumption) _).mono ?_; rintro e w' ⟨r, rfl, hr, rfl⟩) | ((with_reducible refine wpList_here ?_); (first | ((with_reducible refine wpList_feq (k := ?_) (bx := ?_) (by' := ?_) (X := ?_) (Y := ?_) ?_ ?_ ?_ ?_ ?_ ?_); rotate_left 5; (first | (with_reducible exact wanted_none) | ((with_reducible refine wanted_some ?_); rfl)); (rfl); (rfl); (first | assumption | ((refine Is.lit ?_); decide +kernel) | (refine Is.ofInt _ _)); (first | assumption | ((refine Is.lit ?_); decide +kernel) | (refine Is.ofInt _ _)); (try simp only [Act.put, List.setIfInBounds_toArray, List.set_cons_succ, List.set_cons_zero, World.drewN_drewN])) | ((with_reducible refine wpList_fne (k := ?_) (bx := ?_) (by' := ?_) (X := ?_) (Y := ?_) ?_ ?_ ?_ ?_ ?_ ?_); rotate_left 5; (first | (with_reducible exact wanted_none) | ((with_reducible refine wanted_some ?_); rfl)); (rfl); (rfl); (first | assumption | ((refine Is.lit ?_); decide +kernel) | (refine Is.ofInt _ _)); (first | assumption | ((refine Is.lit ?_); decide +kernel) | (refine Is.ofInt _ _)); (try simp only [Act.put, List.setIfInBounds_toArray, List.set_cons_succ, List.set_cons_zero, World.drewN_drewN])) | ((with_reducible refine wpList_flt (k := ?_) (bx := ?_) (by' := ?_) (X := ?_) (Y := ?_) ?_ ?_ ?_ ?_ ?_ ?_); rotate_left 5; (first | (with_reducible exact wanted_none) | ((with_reducible refine wanted_some ?_); rfl)); (rfl); (rfl); (first | assumption | ((refine Is.lit ?_); decide +kernel) | (refine Is.ofInt _ _)); (first | assumption | ((refine Is.lit ?_); decide +kernel) | (refine Is.ofInt _ _)); (try simp only [Act.put, List.setIfInBounds_toArray, List.set_cons_succ, List.set_cons_zero, World.drewN_drewN])) | ((with_reducible refine wpList_fle (k := ?_) (bx := ?_) (by' := ?_) (X := ?_) (Y := ?_) ?_ ?_ ?_ ?_ ?_ ?_); rotate_left 5; (first | (with_reducible exact wanted_none) | ((with_reducible refine wanted_some ?_); rfl)); (rfl); (rfl); (first | assumption | ((refine Is.lit ?_); decide +kernel) | (refine Is.ofInt _ _)); (first | assumption | ((refine Is.lit ?_); decide +kernel) | (refine Is.ofInt _ _)); (try simp only [Act.put, List.setIfInBounds_toArray, List.set_cons_succ, List.set_cons_zero, World.drewN_drewN])) | ((with_reducible refine wpList_fgt (k := ?_) (bx := ?_) (by' := ?_) (X := ?_) (Y := ?_) ?_ ?_ ?_ ?_ ?_ ?_); rotate_left 5; (first | (with_reducible exact wanted_none) | ((with_reducible refine wanted_some ?_); rfl)); (rfl); (rfl); (first | assumption | ((refine Is.lit ?_); decide +kernel) | (refine Is.ofInt _ _)); (first | assumption | ((refine Is.lit ?_); decide +kernel) | (refine Is.ofInt _ _)); (try simp only [Act.put, List.setIfInBounds_toArray, List.set_cons_succ, List.set_cons_zero, World.drewN_drewN])) | ((with_reducible refine wpList_fge (k := ?_) (bx := ?_) (by' := ?_) (X := ?_) (Y := ?_) ?_ ?_ ?_ ?_ ?_ ?_); rotate_left 5; (first | (with_reducible exact wanted_none) | ((with_reducible refine wanted_some ?_); rfl)); (rfl); (rfl); (first | assumption | ((refine Is.lit ?_); decide +kernel) | (refine Is.ofInt _ _)); (first | assumption | ((refine Is.lit ?_); decide +kernel) | (refine Is.ofInt _ _)); (try simp only [Act.put, List.setIfInBounds_toArray, List.set_cons_succ, List.set_cons_zero, World.drewN_drewN])))))
  go_ret
  exact ⟨rfl, rfl⟩
theorem IsInf1_any (x X : Nat) (hx : Is .f64 x X) (w : World) : Calls Tryz.prog 97 #[.float .f64 x, .int .i64 1] w fun e w' => e = .returned (.bool (fgt .f64 X 9218868437227405311)) ∧ w = w' := by
  go_enter Tryz.func97, Tryz.ntmps97
  go_wp2_with (first | (go_at_call 65; refine (Absf_any _ _ (by assumption) _).mono ?_; rintro e w' ⟨r, rfl, hr, rfl⟩) | ((with_reducible refine wpList_here ?_); (first | ((with_reducible refine wpList_feq (k := ?_) (bx := ?_) (by' := ?_) (X := ?_) (Y := ?_) ?_ ?_ ?_ ?_ ?_ ?_); rotate_left 5; (first | (with_reducible exact wanted_none) | ((with_reducible refine wanted_some ?_); rfl)); (rfl); (rfl); (first | assumption | ((refine Is.lit ?_); decide +kernel) | (refine Is.ofInt _ _)); (first | assumption | ((refine Is.lit ?_); decide +kernel) | (refine Is.ofInt _ _)); (try simp only [Act.put, List.setIfInBounds_toArray, List.set_cons_succ, List.set_cons_zero, World.drewN_drewN])) | ((with_reducible refine wpList_fne (k := ?_) (bx := ?_) (by' := ?_) (X := ?_) (Y := ?_) ?_ ?_ ?_ ?_ ?_ ?_); rotate_left 5; (first | (with_reducible exact wanted_none) | ((with_reducible refine wanted_some ?_); rfl)); (rfl); (rfl); (first | assumption | ((refine Is.lit ?_); decide +kernel) | (refine Is.ofInt _ _)); (first | assumption | ((refine Is.lit ?_); decide +kernel) | (refine Is.ofInt _ _)); (try simp only [Act.put, List.setIfInBounds_toArray, List.set_cons_succ, List.set_cons_zero, World.drewN_drewN])) | ((with_reducible refine wpList_flt (k := ?_) (bx := ?_) (by' := ?_) (X := ?_) (Y := ?_) ?_ ?_ ?_ ?_ ?_ ?_); rotate_left 5; (first | (with_reducible exact wanted_none) | ((with_reducible refine wanted_some ?_); rfl)); (rfl); (rfl); (first | assumption | ((refine Is.lit ?_); decide +kernel) | (refine Is.ofInt _ _)); (first | assumption | ((refine Is.lit ?_); decide +kernel) | (refine Is.ofInt _ _)); (try simp only [Act.put, List.setIfInBounds_toArray, List.set_cons_succ, List.set_cons_zero, World.drewN_drewN])) | ((with_reducible refine wpList_fle (k := ?_) (bx := ?_) (by' := ?_) (X := ?_) (Y := ?_) ?_ ?_ ?_ ?_ ?_ ?_); rotate_left 5; (first | (with_reducible exact wanted_none) | ((with_reducible refine wanted_some ?_); rfl)); (rfl); (rfl); (first | assumption | ((refine Is.lit ?_); decide +kernel) | (refine Is.ofInt _ _)); (first | assumption | ((refine Is.lit ?_); decide +kernel) | (refine Is.ofInt _ _)); (try simp only [Act.put, List.setIfInBounds_toArray, List.set_cons_succ, List.set_cons_zero, World.drewN_drewN])) | ((with_reducible refine wpList_fgt (k := ?_) (bx := ?_) (by' := ?_) (X := ?_) (Y := ?_) ?_ ?_ ?_ ?_ ?_ ?_); rotate_left 5; (first | (with_reducible exact wanted_none) | ((with_reducible refine wanted_some ?_); rfl)); (rfl); (rfl); (first | assumption | ((refine Is.lit ?_); decide +kernel) | (refine Is.ofInt _ _)); (first | assumption | ((refine Is.lit ?_); decide +kernel) | (refine Is.ofInt _ _)); (try simp only [Act.put, List.setIfInBounds_toArray, List.set_cons_succ, List.set_cons_zero, World.drewN_drewN])) | ((with_reducible refine wpList_fge (k := ?_) (bx := ?_) (by' := ?_) (X := ?_) (Y := ?_) ?_ ?_ ?_ ?_ ?_ ?_); rotate_left 5; (first | (with_reducible exact wanted_none) | ((with_reducible refine wanted_some ?_); rfl)); (rfl); (rfl); (first | assumption | ((refine Is.lit ?_); decide +kernel) | (refine Is.ofInt _ _)); (first | assumption | ((refine Is.lit ?_); decide +kernel) | (refine Is.ofInt _ _)); (try simp only [Act.put, List.setIfInBounds_toArray, List.set_cons_succ, List.set_cons_zero, World.drewN_drewN])))))
  go_ret
  exact ⟨rfl, rfl⟩
theorem finite_any (x X : Nat) (hx : Is .f64 x X) (w : World) : Calls Tryz.prog 82 #[.float .f64 x] w fun e w' => e = .returned (.bool (fin64B X)) ∧ w = w' := by
  go_enter Tryz.func82, Tryz.ntmps82
  go_wp2_with (first | (go_at_call 96; refine (IsNaN_any _ _ hx _).mono ?_; rintro e w' ⟨rfl, rfl⟩) | (go_at_call 97; refine (IsInf0_any _ _ hx _).mono ?_; rintro e w' ⟨rfl, rfl⟩))
  all_goals go_ret
  · exact ⟨ret_bool (by rw [← fin_law hx.can, show fne .f64 X X = true by assumption]; rfl), rfl⟩
  · exact ⟨ret_bool (by rw [← fin_law hx.can, show fne .f64 X X = false by simpa using (show ¬ fne .f64 X X = true by assumption)]; rfl), rfl⟩
theorem iIsFinite_any (x X : Nat) (hx : Is .f32 x X) (w : World) : Calls Tryz.prog 61 #[.float .f32 x] w (VRet (.bool (fin32B X)) w) := by
  go_enter Tryz.func61, Tryz.ntmps61
  go_wp2_with (first | (go_at_call 82; refine (finite_any _ _ (by assumption) _).mono ?_; rintro e w' ⟨rfl, rfl⟩) | ((with_reducible refine wpList_here ?_); (first | ((with_reducible refine wpList_widen Tryz.underlying28 Tryz.underlying46 (bx := ?_) (X := ?_) ?_ ?_ ?_ ?_); rotate_left 2; (first | (with_reducible exact wanted_none) | ((with_reducible refine wanted_some ?_); rfl)); (rfl); (first | assumption | ((refine Is.lit ?_); decide +kernel) | (refine Is.ofInt _ _)); (intro r nd hr); (try simp only [Act.put, List.setIfInBounds_toArray, List.set_cons_succ, List.set_cons_zero, World.drewN_drewN])))))
  go_ret
  exact ⟨ret_bool (fin_wid hx.can), (by repeat (first | exact Dr.refl _ | apply Dr.drewN))⟩
theorem l01Finite_any (x X : Nat) (hx : Is .f32 x X) (w : World) : Calls Tryz.prog 62 #[.float .f32 x] w (VRet (.bool (fin32B X)) w) := by
  go_enter Tryz.func62, Tryz.ntmps62
  go_wp2_with (first | ((with_reducible refine wpList_here ?_); (first | ((with_reducible refine wpList_feq (k := ?_) (bx := ?_) (by' := ?_) (X := ?_) (Y := ?_) ?_ ?_ ?_ ?_ ?_ ?_); rotate_left 5; (first | (with_reducible exact wanted_none) | ((with_reducible refine wanted_some ?_); rfl)); (rfl); (rfl); (first | assumption | ((refine Is.lit ?_); decide +kernel) | (refine Is.ofInt _ _)); (first | assumption | ((refine Is.lit ?_); decide +kernel) | (refine Is.ofInt _ _)); (try simp only [Act.put, List.setIfInBounds_toArray, List.set_cons_succ, List.set_cons_zero, World.drewN_drewN])) | ((with_reducible refine wpList_fne (k := ?_) (bx := ?_) (by' := ?_) (X := ?_) (Y := ?_) ?_ ?_ ?_ ?_ ?_ ?_); rotate_left 5; (first | (with_reducible exact wanted_none) | ((with_reducible refine wanted_some ?_); rfl)); (rfl); (rfl); (first | assumption | ((refine Is.lit ?_); decide +kernel) | (refine Is.ofInt _ _)); (first | assumption | ((refine Is.lit ?_); decide +kernel) | (refine Is.ofInt _ _)); (try simp only [Act.put, List.setIfInBounds_toArray, List.set_cons_succ, List.set_cons_zero, World.drewN_drewN])) | ((with_reducible refine wpList_flt (k := ?_) (bx := ?_) (by' := ?_) (X := ?_) (Y := ?_) ?_ ?_ ?_ ?_ ?_ ?_); rotate_left 5; (first | (with_reducible exact wanted_none) | ((with_reducible refine wanted_some ?_); rfl)); (rfl); (rfl); (first | assumption | ((refine Is.lit ?_); decide +kernel) | (refine Is.ofInt _ _)); (first | assumption | ((refine Is.lit ?_); decide +kernel) | (refine Is.ofInt _ _)); (try simp only [Act.put, List.setIfInBounds_toArray, List.set_cons_succ, List.set_cons_zero, World.drewN_drewN])) | ((with_reducible refine wpList_fle (k := ?_) (bx := ?_) (by' := ?_) (X := ?_) (Y := ?_) ?_ ?_ ?_ ?_ ?_ ?_); rotate_left 5; (first | (with_reducible exact wanted_none) | ((with_reducible refine wanted_some ?_); rfl)); (rfl); (rfl); (first | assumption | ((refine Is.lit ?_); decide +kernel) | (refine Is.ofInt _ _)); (first | assumption | ((refine Is.lit ?_); decide +kernel) | (refine Is.ofInt _ _)); (try simp only [Act.put, List.setIfInBounds_toArray, List.set_cons_succ, List.set_cons_zero, World.drewN_drewN])) | ((with_reducible refine wpList_fgt (k := ?_) (bx := ?_) (by' := ?_) (X := ?_) (Y := ?_) ?_ ?_ ?_ ?_ ?_ ?_); rotate_left 5; (first | (with_reducible exact wanted_none) | ((with_reducible refine wanted_some ?_); rfl)); (rfl); (rfl); (first | assumption | ((refine Is.lit ?_); decide +kernel) | (refine Is.ofInt _ _)); (first | assumption | ((refine Is.lit ?_); decide +kernel) | (refine Is.ofInt _ _)); (try simp only [Act.put, List.setIfInBounds_toArray, List.set_cons_succ, List.set_cons_zero, World.drewN_drewN])) | ((with_reducible refine wpList_fge (k := ?_) (bx := ?_) (by' := ?_) (X := ?_) (Y := ?_) ?_ ?_ ?_ ?_ ?_ ?_); rotate_left 5; (first | (with_reducible exact wanted_none) | ((with_reducible refine wanted_some ?_); rfl)); (rfl); (rfl); (first | assumption | ((refine Is.lit ?_); decide +kernel) | (refine Is.ofInt _ _)); (first | assumption | ((refine Is.lit ?_); decide +kernel) | (refine Is.ofInt _ _)); (try simp only [Act.put, List.setIfInBounds_toArray, List.set_cons_succ, List.set_cons_zero, World.drewN_drewN])) | ((with_reducible refine wpList_fadd (k := ?_) (bx := ?_) (by' := ?_) (X := ?_) (Y := ?_) ?_ ?_ ?_ ?_ ?_ ?_); rotate_left 5; (first | (with_reducible exact wanted_none) | ((with_reducible refine wanted_some ?_); rfl)); (rfl); (rfl); (first | assumption | ((refine Is.lit ?_); decide +kernel) | (refine Is.ofInt _ _)); (first | assumption | ((refine Is.lit ?_); decide +kernel) | (refine Is.ofInt _ _)); (intro r nd hr); (try simp only [Act.put, List.setIfInBounds_toArray, List.set_cons_succ, List.set_cons_zero, World.drewN_drewN])) | ((with_reducible refine wpList_fsub (k := ?_) (bx := ?_) (by' := ?_) (X := ?_) (Y := ?_) ?_ ?_ ?_ ?_ ?_ ?_); rotate_left 5; (first | (with_reducible exact wanted_none) | ((with_reducible refine wanted_some ?_); rfl)); (rfl); (rfl); (first | assumption | ((refine Is.lit ?_); decide +kernel) | (refine Is.ofInt _ _)); (first | assumption | ((refine Is.lit ?_); decide +kernel) | (refine Is.ofInt _ _)); (intro r nd hr); (try simp only [Act.put, List.setIfInBounds_toArray, List.set_cons_succ, List.set_cons_zero, World.drewN_drewN])) | ((with_reducible refine wpList_fmul (k := ?_) (bx := ?_) (by' := ?_) (X := ?_) (Y := ?_) ?_ ?_ ?_ ?_ ?_ ?_); rotate_left 5; (first | (with_reducible exact wanted_none) | ((with_reducible refine wanted_some ?_); rfl)); (rfl); (rfl); (first | assumption | ((refine Is.lit ?_); decide +kernel) | (refine Is.ofInt _ _)); (first | assumption | ((refine Is.lit ?_); decide +kernel) | (refine Is.ofInt _ _)); (intro r nd hr); (try simp only [Act.put, List.setIfInBounds_toArray, List.set_cons_succ, List.set_cons_zero, World.drewN_drewN])) | ((with_reducible refine wpList_fquo (k := ?_) (bx := ?_) (by' := ?_) (X := ?_) (Y := ?_) ?_ ?_ ?_ ?_ ?_ ?_); rotate_left 5; (first | (with_reducible exact wanted_none) | ((with_reducible refine wanted_some ?_); rfl)); (rfl); (rfl); (first | assumption | ((refine Is.lit ?_); decide +kernel) | (refine Is.ofInt _ _)); (first | assumption | ((refine Is.lit ?_); decide +kernel) | (refine Is.ofInt _ _)); (intro r nd hr); (try simp only [Act.put, List.setIfInBounds_toArray, List.set_cons_succ, List.set_cons_zero, World.drewN_drewN])))))
  go_ret
  exact ⟨ret_bool (fin_sub hx.can), (by repeat (first | exact Dr.refl _ | apply Dr.drewN))⟩
theorem sIsFinite_any (x X : Nat) (hx : Is .f32 x X) (w : World) : Calls Tryz.prog 27 #[.float .f32 x] w (VRet (.bool (fin32B X)) w) := by
  go_enter Tryz.func27, Tryz.ntmps27
  go_wp2_with (go_at_call 62; refine (l01Finite_any _ _ hx _).mono ?_; rintro e w' ⟨rfl, n, rfl⟩)
  go_ret
  exact ⟨rfl, (by repeat (first | exact Dr.refl _ | apply Dr.drewN))⟩
theorem Copysign_zero (x X : Nat) (hx : Is .f64 x X) (hn : isn .f64 X = false) (w : World) : Calls Tryz.prog 63 #[.float .f64 0, .float .f64 x] w fun e w' => ∃ r, e = .returned (.float .f64 r) ∧ Is .f64 r (csz X) ∧ w = w' := by
  have hb := is64_le hx
  have e1 : bits BinOp.andNot IntKind.u64 0 9223372036854775808 = 0 := by decide +kernel
  have e2 : bits BinOp.and IntKind.u64 (x : Int) 9223372036854775808 = (csz x : Int) := by
    have h := bits_and_u64_nat x 9223372036854775808 (by omega) (by omega)
    rw [show ((9223372036854775808 : Nat) : Int) = 9223372036854775808 from rfl, csz_and (by omega)] at h
    exact h
  have e3 : bits BinOp.or IntKind.u64 0 (csz x : Int) = (csz x : Int) := by
    unfold csz
    split <;> decide +kernel
  have hX := Lib.hid (is_of_num hx hn)
  go_enter Tryz.func63, Tryz.ntmps63
  go_wp2
  go_ret
  refine ⟨csz x, by simp [e2, e3], ?_, rfl⟩
  rw [hX.out]; exact csz_is X
theorem l01From_any (X : Nat) (h : X < 4294967296) (w : World) : Calls Tryz.prog 52 #[.int .i64 (X : Int)] w fun e w' => e = .returned (.float .f32 X) ∧ w = w' := by
  go_enter Tryz.func52, Tryz.ntmps52
  go_wp2
  go_ret
  exact ⟨rfl, rfl⟩
theorem iFlushNumber_any (x X : Nat) (hx : Is .f32 x X) (w : World) : Calls Tryz.prog 28 #[.float .f32 x] w (FRet .f32 (flush X) w) := by
  have hno := noOv_csz (wid X)
  by_cases hs : subn X = true
  · have hz := Lib.hid (flush_law hx.can hs)
    have hnan : isn .f64 (wid X) = false := by
      have h1 := hs
      unfold subn at h1
      rw [Bool.and_eq_true, decide_eq_true_eq, expo_zero] at h1
      exact wid_num (can32_lt hx.can) (by rw [isn32]; exact decide_eq_false (by omega))
    have hn' := Lib.hid hnan
    clear hnan
    go_enter Tryz.func28, Tryz.ntmps28
    go_wp2_with (first | (go_at_call 33; refine (iIsSubnormal_any _ _ hx _).mono ?_; rintro e w' ⟨rfl, n, rfl⟩) | (go_at_call 63; refine (Copysign_zero _ _ (by assumption) hn'.out _).mono ?_; rintro e w' ⟨r, rfl, hr, rfl⟩) | ((with_reducible refine wpList_here ?_); (first | ((with_reducible refine wpList_feq (k := ?_) (bx := ?_) (by' := ?_) (X := ?_) (Y := ?_) ?_ ?_ ?_ ?_ ?_ ?_); rotate_left 5; (first | (with_reducible exact wanted_none) | ((with_reducible refine wanted_some ?_); rfl)); (rfl); (rfl); (first | assumption | ((refine Is.lit ?_); decide +kernel) | (refine Is.ofInt _ _)); (first | assumption | ((refine Is.lit ?_); decide +kernel) | (refine Is.ofInt _ _)); (try simp only [Act.put, List.setIfInBounds_toArray, List.set_cons_succ, List.set_cons_zero, World.drewN_drewN])) | ((with_reducible refine wpList_fne (k := ?_) (bx := ?_) (by' := ?_) (X := ?_) (Y := ?_) ?_ ?_ ?_ ?_ ?_ ?_); rotate_left 5; (first | (with_reducible exact wanted_none) | ((with_reducible refine wanted_some ?_); rfl)); (rfl); (rfl); (first | assumption | ((refine Is.lit ?_); decide +kernel) | (refine Is.ofInt _ _)); (first | assumption | ((refine Is.lit ?_); decide +kernel) | (refine Is.ofInt _ _)); (try simp only [Act.put, List.setIfInBounds_toArray, List.set_cons_succ, List.set_cons_zero, World.drewN_drewN])) | ((with_reducible refine wpList_flt (k := ?_) (bx := ?_) (by' := ?_) (X := ?_) (Y := ?_) ?_ ?_ ?_ ?_ ?_ ?_); rotate_left 5; (first | (with_reducible exact wanted_none) | ((with_reducible refine wanted_some ?_); rfl)); (rfl); (rfl); (first | assumption | ((refine Is.lit ?_); decide +kernel) | (refine Is.ofInt _ _)); (first | assumption | ((refine Is.lit ?_); decide +kernel) | (refine Is.ofInt _ _)); (try simp only [Act.put, List.setIfInBounds_toArray, List.set_cons_succ, List.set_cons_zero, World.drewN_drewN])) | ((with_reducible refine wpList_fle (k := ?_) (bx := ?_) (by' := ?_) (X := ?_) (Y := ?_) ?_ ?_ ?_ ?_ ?_ ?_); rotate_left 5; (first | (with_reducible exact wanted_none) | ((with_reducible refine wanted_some ?_); rfl)); (rfl); (rfl); (first | assumption | ((refine Is.lit ?_); decide +kernel) | (refine Is.ofInt _ _)); (first | assumption | ((refine Is.lit ?_); decide +kernel) | (refine Is.ofInt _ _)); (try simp only [Act.put, List.setIfInBounds_toArray, List.set_cons_succ, List.set_cons_zero, World.drewN_drewN])) | ((with_reducible refine wpList_fgt (k := ?_) (bx := ?_) (by' := ?_) (X := ?_) (Y := ?_) ?_ ?_ ?_ ?_ ?_ ?_); rotate_left 5; (first | (with_reducible exact wanted_none) | ((with_reducible refine wanted_some ?_); rfl)); (rfl); (rfl); (first | assumption | ((refine Is.lit ?_); decide +kernel) | (refine Is.ofInt _ _)); (first | assumption | ((refine Is.lit ?_); decide +kernel) | (refine Is.ofInt _ _)); (try simp only [Act.put, List.setIfInBounds_toArray, List.set_cons_succ, List.set_cons_zero, World.drewN_drewN])) | ((with_reducible refine wpList_fge (k := ?_) (bx := ?_) (by' := ?_) (X := ?_) (Y := ?_) ?_ ?_ ?_ ?_ ?_ ?_); rotate_left 5; (first | (with_reducible exact wanted_none) | ((with_reducible refine wanted_some ?_); rfl)); (rfl); (rfl); (first | assumption | ((refine Is.lit ?_); decide +kernel) | (refine Is.ofInt _ _)); (first | assumption | ((refine Is.lit ?_); decide +kernel) | (refine Is.ofInt _ _)); (try simp only [Act.put, List.setIfInBounds_toArray, List.set_cons_succ, List.set_cons_zero, World.drewN_drewN])) | ((with_reducible refine wpList_widen Tryz.underlying28 Tryz.underlying46 (bx := ?_) (X := ?_) ?_ ?_ ?_ ?_); rotate_left 2; (first | (with_reducible exact wanted_none) | ((with_reducible refine wanted_some ?_); rfl)); (rfl); (first | assumption | ((refine Is.lit ?_); decide +kernel) | (refine Is.ofInt _ _)); (intro r nd hr); (try simp only [Act.put, List.setIfInBounds_toArray, List.set_cons_succ, List.set_cons_zero, World.drewN_drewN])) | ((with_reducible refine wpList_narrow Tryz.underlying46 Tryz.underlying28 (bx := ?_) (X := ?_) ?_ ?_ ?_ ?_ ?_); rotate_left 2; (first | (with_reducible exact wanted_none) | ((with_reducible refine wanted_some ?_); rfl)); (rfl); (first | assumption | ((refine Is.lit ?_); decide +kernel) | (refine Is.ofInt _ _)); assumption; (intro r nd hr); (try simp only [Act.put, List.setIfInBounds_toArray, List.set_cons_succ, List.set_cons_zero, World.drewN_drewN])))))
    go_ret
    refine ⟨_, rfl, ?_, (by repeat (first | exact Dr.refl _ | apply Dr.drewN))⟩
    rw [← hz.out]; assumption
  · have hz := Lib.hid (flush_same hx.can (by simpa [subn] using hs))
    go_enter Tryz.func28, Tryz.ntmps28
    go_wp2_with (first | (go_at_call 33; refine (iIsSubnormal_any _ _ hx _).mono ?_; rintro e w' ⟨rfl, n, rfl⟩) | ((with_reducible refine wpList_here ?_); (first | ((with_reducible refine wpList_feq (k := ?_) (bx := ?_) (by' := ?_) (X := ?_) (Y := ?_) ?_ ?_ ?_ ?_ ?_ ?_); rotate_left 5; (first | (with_reducible exact wanted_none) | ((with_reducible refine wanted_some ?_); rfl)); (rfl); (rfl); (first | assumption | ((refine Is.lit ?_); decide +kernel) | (refine Is.ofInt _ _)); (first | assumption | ((refine Is.lit ?_); decide +kernel) | (refine Is.ofInt _ _)); (try simp only [Act.put, List.setIfInBounds_toArray, List.set_cons_succ, List.set_cons_zero, World.drewN_drewN])) | ((with_reducible refine wpList_fne (k := ?_) (bx := ?_) (by' := ?_) (X := ?_) (Y := ?_) ?_ ?_ ?_ ?_ ?_ ?_); rotate_left 5; (first | (with_reducible exact wanted_none) | ((with_reducible refine wanted_some ?_); rfl)); (rfl); (rfl); (first | assumption | ((refine Is.lit ?_); decide +kernel) | (refine Is.ofInt _ _)); (first | assumption | ((refine Is.lit ?_); decide +kernel) | (refine Is.ofInt _ _)); (try simp only [Act.put, List.setIfInBounds_toArray, List.set_cons_succ, List.set_cons_zero, World.drewN_drewN])) | ((with_reducible refine wpList_flt (k := ?_) (bx := ?_) (by' := ?_) (X := ?_) (Y := ?_) ?_ ?_ ?_ ?_ ?_ ?_); rotate_left 5; (first | (with_reducible exact wanted_none) | ((with_reducible refine wanted_some ?_); rfl)); (rfl); (rfl); (first | assumption | ((refine Is.lit ?_); decide +kernel) | (refine Is.ofInt _ _)); (first | assumption | ((refine Is.lit ?_); decide +kernel) | (refine Is.ofInt _ _)); (try simp only [Act.put, List.setIfInBounds_toArray, List.set_cons_succ, List.set_cons_zero, World.drewN_drewN])) | ((with_reducible refine wpList_fle (k := ?_) (bx := ?_) (by' := ?_) (X := ?_) (Y := ?_) ?_ ?_ ?_ ?_ ?_ ?_); rotate_left 5; (first | (with_reducible exact wanted_none) | ((with_reducible refine wanted_some ?_); rfl)); (rfl); (rfl); (first | assumption | ((refine Is.lit ?_); decide +kernel) | (refine Is.ofInt _ _)); (first | assumption | ((refine Is.lit ?_); decide +kernel) | (refine Is.ofInt _ _)); (try simp only [Act.put, List.setIfInBounds_toArray, List.set_cons_succ, List.set_cons_zero, World.drewN_drewN])) | ((with_reducible refine wpList_fgt (k := ?_) (bx := ?_) (by' := ?_) (X := ?_) (Y := ?_) ?_ ?_ ?_ ?_ ?_ ?_); rotate_left 5; (first | (with_reducible exact wanted_none) | ((with_reducible refine wanted_some ?_); rfl)); (rfl); (rfl); (first | assumption | ((refine Is.lit ?_); decide +kernel) | (refine Is.ofInt _ _)); (first | assumption | ((refine Is.lit ?_); decide +kernel) | (refine Is.ofInt _ _)); (try simp only [Act.put, List.setIfInBounds_toArray, List.set_cons_succ, List.set_cons_zero, World.drewN_drewN])) | ((with_reducible refine wpList_fge (k := ?_) (bx := ?_) (by' := ?_) (X := ?_) (Y := ?_) ?_ ?_ ?_ ?_ ?_ ?_); rotate_left 5; (first | (with_reducible exact wanted_none) | ((with_reducible refine wanted_some ?_); rfl)); (rfl); (rfl); (first | assumption | ((refine Is.lit ?_); decide +kernel) | (refine Is.ofInt _ _)); (first | assumption | ((refine Is.lit ?_); decide +kernel) | (refine Is.ofInt _ _)); (try simp only [Act.put, List.setIfInBounds_toArray, List.set_cons_succ, List.set_cons_zero, World.drewN_drewN])) | ((with_reducible refine wpList_widen Tryz.underlying28 Tryz.underlying46 (bx := ?_) (X := ?_) ?_ ?_ ?_ ?_); rotate_left 2; (first | (with_reducible exact wanted_none) | ((with_reducible refine wanted_some ?_); rfl)); (rfl); (first | assumption | ((refine Is.lit ?_); decide +kernel) | (refine Is.ofInt _ _)); (intro r nd hr); (try simp only [Act.put, List.setIfInBounds_toArray, List.set_cons_succ, List.set_cons_zero, World.drewN_drewN])) | ((with_reducible refine wpList_narrow Tryz.underlying46 Tryz.underlying28 (bx := ?_) (X := ?_) ?_ ?_ ?_ ?_ ?_); rotate_left 2; (first | (with_reducible exact wanted_none) | ((with_reducible refine wanted_some ?_); rfl)); (rfl); (first | assumption | ((refine Is.lit ?_); decide +kernel) | (refine Is.ofInt _ _)); assumption; (intro r nd hr); (try simp only [Act.put, List.setIfInBounds_toArray, List.set_cons_succ, List.set_cons_zero, World.drewN_drewN])))))
    go_ret
    refine ⟨_, rfl, ?_, (by repeat (first | exact Dr.refl _ | apply Dr.drewN))⟩
    rw [hz.out]; assumption
theorem Sqrt_any (x X : Nat) (hx : Is .f64 x X) (w : World) : Calls Tryz.prog 44 #[.float .f64 x] w (FRet .f64 (fsqrt X) w) := by
  go_enter Tryz.func44, Tryz.ntmps44
  go_wp2_with ((with_reducible refine wpList_here ?_); (first | ((with_reducible refine wpList_sqrt Tryz.func71 (by kernel_rfl) (by kernel_rfl) (by kernel_rfl) (by kernel_rfl) (bx := ?_) (X := ?_) ?_ ?_ ?_ ?_); rotate_left 2; (first | (with_reducible exact wanted_none) | ((with_reducible refine wanted_some ?_); rfl)); (rfl); (first | assumption | ((refine Is.lit ?_); decide +kernel) | (refine Is.ofInt _ _)); (intro r nd hr); (try simp only [Act.put, List.setIfInBounds_toArray, List.set_cons_succ, List.set_cons_zero, World.drewN_drewN]))))
  go_ret
  exact ⟨_, rfl, by assumption, (by repeat (first | exact Dr.refl _ | apply Dr.drewN))⟩
theorem l01Narrow_any (x X : Nat) (hx : Is .f64 x X) (hno : NoOv X) (w : World) : Calls Tryz.prog 72 #[.float .f64 x] w (FRet .f32 (nar X) w) := by
  go_enter Tryz.func72, Tryz.ntmps72
  go_wp2_with ((with_reducible refine wpList_here ?_); (first | ((with_reducible refine wpList_narrow Tryz.underlying46 Tryz.underlying28 (bx := ?_) (X := ?_) ?_ ?_ ?_ ?_ ?_); rotate_left 2; (first | (with_reducible exact wanted_none) | ((with_reducible refine wanted_some ?_); rfl)); (rfl); (first | assumption | ((refine Is.lit ?_); decide +kernel) | (refine Is.ofInt _ _)); assumption; (intro r nd hr); (try simp only [Act.put, List.setIfInBounds_toArray, List.set_cons_succ, List.set_cons_zero, World.drewN_drewN]))))
  go_ret
  exact ⟨_, rfl, by assumption, (by repeat (first | exact Dr.refl _ | apply Dr.drewN))⟩
theorem l01Sqrt_any (x X : Nat) (hx : Is .f32 x X) (w : World) : Calls Tryz.prog 45 #[.float .f32 x] w (FRet .f32 (nar (fsqrt (wid X))) w) := by
  have hno := root_ok hx.can
  go_enter Tryz.func45, Tryz.ntmps45
  go_wp2_with (first | (go_at_call 44; refine (Sqrt_any _ _ (by assumption) _).mono ?_; rintro e w' ⟨r, rfl, hr, n, rfl⟩) | (go_at_call 72; refine (l01Narrow_any _ _ (by assumption) hno _).mono ?_; rintro e w' ⟨r, rfl, hr, n, rfl⟩) | ((with_reducible refine wpList_here ?_); (first | ((with_reducible refine wpList_widen Tryz.underlying28 Tryz.underlying46 (bx := ?_) (X := ?_) ?_ ?_ ?_ ?_); rotate_left 2; (first | (with_reducible exact wanted_none) | ((with_reducible refine wanted_some ?_); rfl)); (rfl); (first | assumption | ((refine Is.lit ?_); decide +kernel) | (refine Is.ofInt _ _)); (intro r nd hr); (try simp only [Act.put, List.setIfInBounds_toArray, List.set_cons_succ, List.set_cons_zero, World.drewN_drewN])))))
  go_ret
  exact ⟨_, rfl, by assumption, (by repeat (first | exact Dr.refl _ | apply Dr.drewN))⟩
theorem sRootNumber_any (x X : Nat) (hx : Is .f32 x X) (w : World) : Calls Tryz.prog 12 #[.float .f32 x] w (FRet .f32 (nar (fsqrt (wid X))) w) := by
  go_enter Tryz.func12, Tryz.ntmps12
  go_wp2_with (go_at_call 45; refine (l01Sqrt_any _ _ hx _).mono ?_; rintro e w' ⟨r, rfl, hr, n, rfl⟩)
  go_ret
  exact ⟨_, rfl, by assumption, (by repeat (first | exact Dr.refl _ | apply Dr.drewN))⟩
end Go.Proofs.YtianaalokclklaaGreatDoor
end

/-
  CONTRACTS: slices of 32-bit numbers: copied, compared, summed.
-/
section
set_option linter.unusedSimpArgs false
set_option linter.unusedVariables false
namespace Go.Proofs.YtianaalokclklaaGreatDoor
open Go.RowKit Go.Fl

/-- a float stored in a cell that is there -/
theorem run_store_float {P : Program} {w : World} {a : Addr} {v : Value} (h : w.cell? a = some v) (hf : w.frozen? a = false) (k : FloatKind) (r : Nat) (m : Mode) : (store a (.float k r) m).run P w = .ok () (w.setCell a (.float k r)) := by
  rw [run_store P w a _ m rfl, h]; simp [hf]

/-- a row under way: the first 'k' of 'n' are copied -/
structure FFill (w wr : World) (n k : Nat) (xs : List Nat) : Prop where
  below : Below w.heap.size w wr
  lt : w.heap.size < wr.heap.size
  cells : ∀ j, j < n → wr.cell? ⟨w.heap.size, j, none⟩ = some (.float .f32 (if j < k then xs.getD j 0 else 0))
  thaw : ∀ j, wr.frozen? ⟨w.heap.size, j, none⟩ = false

theorem FFill.start (w : World) (n : Nat) (xs : List Nat) (e : TypeId) : FFill w (w.alloc (.cells (madeCells #[.float .f32 0] n) e)) n 0 xs := by
  refine ⟨(Below.refl _ w).alloc (Nat.le_refl _) _, by simp, fun j hj => ?_, fun j => ?_⟩
  · rw [World.cell?_alloc_at _ _ _ _ rfl]
    simp [madeCells, hj, Nat.mod_one]
  · rw [frozen?_alloc_cells]
    unfold World.frozen?
    simp

theorem FFill.next {w wr : World} {n k : Nat} {xs : List Nat} (h : FFill w wr n k xs) (hk : k < n) : FFill w (wr.setCell ⟨w.heap.size, k, none⟩ (.float .f32 (xs.getD k 0))) n (k + 1) xs := by
  refine ⟨h.below.setCell (Nat.le_refl _) _, by simpa [World.setCell] using h.lt, fun j hj => ?_, fun j => by rw [World.frozen?_setCell]; exact h.thaw j⟩
  by_cases e : k = j
  · subst e
    rw [World.cell?_setCell_same _ _ _ (h.cells k hk), if_pos (by omega)]
  · rw [World.cell?_setCell_other _ _ _ _ (by intro he; cases he; exact e rfl), h.cells j hj]
    by_cases g : j < k
    · rw [if_pos g, if_pos (by omega)]
    · rw [if_neg g, if_neg (by omega)]

theorem FFill.done {w wr : World} {n : Nat} {xs : List Nat} (h : FFill w wr n n xs) (hl : xs.length = n) (hw : ∀ i, i < n → xs.getD i 0 < 4294967296) : FRow wr (some ⟨w.heap.size, 0, none⟩) n xs :=
  ⟨hl, fun hn => ⟨w.heap.size, 0, rfl, h.lt, fun i hi => by rw [Nat.zero_add, h.cells i hi, if_pos hi]⟩, hw⟩

/-- what a call that hands back a new row has done -/
def SRet (n : Nat) (xs : List Nat) (w : World) (e : Ending) (w' : World) : Prop := ∃ ao, e = .returned (.slice ao n n) ∧ FRow w' ao n xs ∧ Bel w w'

theorem infoF32 : (Tryz.prog.info? 28).map (fun i => (i.zero, i.size, i.bytes)) = some (some (.float .f32 0), 1, 4) := by kernel_rfl

def eqAll (xs ys : List Nat) : Prop := ∀ j : Nat, cn .f32 (xs.getD j 0) = cn .f32 (ys.getD j 0)

/-- the sum of the first 'k', from left to right -/
def sumF (xs : List Nat) : Nat → Nat
  | 0 => 0
  | k + 1 => fop .add .f32 (sumF xs k) (cn .f32 (xs.getD k 0))
def dotF (xs ys : List Nat) : Nat → Nat
  | 0 => 0
  | k + 1 => fop .add .f32 (dotF xs ys k) (fop .mul .f32 (cn .f32 (xs.getD k 0)) (cn .f32 (ys.getD k 0)))

/-- what a call has done that hands back a float and whether it is one -/
def SmRet (b : Bool) (X : Nat) (w : World) (e : Ending) (w' : World) : Prop := ∃ r, e = .returned (.tuple #[.float .f32 r, .bool b]) ∧ Is .f32 r X ∧ Dr w w'



set_option maxHeartbeats 1000000 in
theorem implSum_any (w : World) (ao : Option Addr) (n c : Nat) (xs : List Nat) (hA : FRow w ao n xs) (hm : n ≤ 1048576) :
    Calls Tryz.prog 30 #[.slice ao n c] w (SmRet (decide (n ≤ 256)) (if n ≤ 256 then sumF xs n else 0) w) := by
  have hA' := Lib.hid hA
  clear hA
  by_cases hn : n ≤ 256
  · rw [if_pos hn, decide_eq_true hn]
    go_enter Tryz.func30, Tryz.ntmps30
    go_wp2
    go_loopw [4, 12] (fun s i wr => ∃ k r : Nat, k ≤ n ∧ i = .int .i64 k ∧ s = .float .f32 r ∧ Is .f32 r (sumF xs k) ∧ ∃ q, wr = w.drewN q) (fun _ i _ => n - (intOf i).toNat)
    case atStart => exact ⟨0, 0, Nat.zero_le _, rfl, rfl, (Is.lit (by decide +kernel) : Is .f32 0 0), 0, rfl⟩
    case round =>
      obtain ⟨k, r, hk, rfl, rfl, hr, q, rfl⟩ := hrel
      by_cases hlt : k < n
      · obtain ⟨b, off, rfl, _, hcell⟩ := hA'.out.at0 (by omega)
        have h1 := hcell k hlt
        clear hcell
        have hx := hA'.out.is hlt
        go_wp2_with ((with_reducible refine wpList_here ?_); (first | ((with_reducible refine wpList_feq (k := ?_) (bx := ?_) (by' := ?_) (X := ?_) (Y := ?_) ?_ ?_ ?_ ?_ ?_ ?_); rotate_left 5; (first | (with_reducible exact wanted_none) | ((with_reducible refine wanted_some ?_); rfl)); (rfl); (rfl); (first | assumption | ((refine Is.lit ?_); decide +kernel) | (refine Is.ofInt _ _)); (first | assumption | ((refine Is.lit ?_); decide +kernel) | (refine Is.ofInt _ _)); (try simp only [Act.put, List.setIfInBounds_toArray, List.set_cons_succ, List.set_cons_zero, World.drewN_drewN])) | ((with_reducible refine wpList_fne (k := ?_) (bx := ?_) (by' := ?_) (X := ?_) (Y := ?_) ?_ ?_ ?_ ?_ ?_ ?_); rotate_left 5; (first | (with_reducible exact wanted_none) | ((with_reducible refine wanted_some ?_); rfl)); (rfl); (rfl); (first | assumption | ((refine Is.lit ?_); decide +kernel) | (refine Is.ofInt _ _)); (first | assumption | ((refine Is.lit ?_); decide +kernel) | (refine Is.ofInt _ _)); (try simp only [Act.put, List.setIfInBounds_toArray, List.set_cons_succ, List.set_cons_zero, World.drewN_drewN])) | ((with_reducible refine wpList_flt (k := ?_) (bx := ?_) (by' := ?_) (X := ?_) (Y := ?_) ?_ ?_ ?_ ?_ ?_ ?_); rotate_left 5; (first | (with_reducible exact wanted_none) | ((with_reducible refine wanted_some ?_); rfl)); (rfl); (rfl); (first | assumption | ((refine Is.lit ?_); decide +kernel) | (refine Is.ofInt _ _)); (first | assumption | ((refine Is.lit ?_); decide +kernel) | (refine Is.ofInt _ _)); (try simp only [Act.put, List.setIfInBounds_toArray, List.set_cons_succ, List.set_cons_zero, World.drewN_drewN])) | ((with_reducible refine wpList_fle (k := ?_) (bx := ?_) (by' := ?_) (X := ?_) (Y := ?_) ?_ ?_ ?_ ?_ ?_ ?_); rotate_left 5; (first | (with_reducible exact wanted_none) | ((with_reducible refine wanted_some ?_); rfl)); (rfl); (rfl); (first | assumption | ((refine Is.lit ?_); decide +kernel) | (refine Is.ofInt _ _)); (first | assumption | ((refine Is.lit ?_); decide +kernel) | (refine Is.ofInt _ _)); (try simp only [Act.put, List.setIfInBounds_toArray, List.set_cons_succ, List.set_cons_zero, World.drewN_drewN])) | ((with_reducible refine wpList_fgt (k := ?_) (bx := ?_) (by' := ?_) (X := ?_) (Y := ?_) ?_ ?_ ?_ ?_ ?_ ?_); rotate_left 5; (first | (with_reducible exact wanted_none) | ((with_reducible refine wanted_some ?_); rfl)); (rfl); (rfl); (first | assumption | ((refine Is.lit ?_); decide +kernel) | (refine Is.ofInt _ _)); (first | assumption | ((refine Is.lit ?_); decide +kernel) | (refine Is.ofInt _ _)); (try simp only [Act.put, List.setIfInBounds_toArray, List.set_cons_succ, List.set_cons_zero, World.drewN_drewN])) | ((with_reducible refine wpList_fge (k := ?_) (bx := ?_) (by' := ?_) (X := ?_) (Y := ?_) ?_ ?_ ?_ ?_ ?_ ?_); rotate_left 5; (first | (with_reducible exact wanted_none) | ((with_reducible refine wanted_some ?_); rfl)); (rfl); (rfl); (first | assumption | ((refine Is.lit ?_); decide +kernel) | (refine Is.ofInt _ _)); (first | assumption | ((refine Is.lit ?_); decide +kernel) | (refine Is.ofInt _ _)); (try simp only [Act.put, List.setIfInBounds_toArray, List.set_cons_succ, List.set_cons_zero, World.drewN_drewN])) | ((with_reducible refine wpList_fadd (k := ?_) (bx := ?_) (by' := ?_) (X := ?_) (Y := ?_) ?_ ?_ ?_ ?_ ?_ ?_); rotate_left 5; (first | (with_reducible exact wanted_none) | ((with_reducible refine wanted_some ?_); rfl)); (rfl); (rfl); (first | assumption | ((refine Is.lit ?_); decide +kernel) | (refine Is.ofInt _ _)); (first | assumption | ((refine Is.lit ?_); decide +kernel) | (refine Is.ofInt _ _)); (intro r nd hr); (try simp only [Act.put, List.setIfInBounds_toArray, List.set_cons_succ, List.set_cons_zero, World.drewN_drewN])) | ((with_reducible refine wpList_fsub (k := ?_) (bx := ?_) (by' := ?_) (X := ?_) (Y := ?_) ?_ ?_ ?_ ?_ ?_ ?_); rotate_left 5; (first | (with_reducible exact wanted_none) | ((with_reducible refine wanted_some ?_); rfl)); (rfl); (rfl); (first | assumption | ((refine Is.lit ?_); decide +kernel) | (refine Is.ofInt _ _)); (first | assumption | ((refine Is.lit ?_); decide +kernel) | (refine Is.ofInt _ _)); (intro r nd hr); (try simp only [Act.put, List.setIfInBounds_toArray, List.set_cons_succ, List.set_cons_zero, World.drewN_drewN])) | ((with_reducible refine wpList_fmul (k := ?_) (bx := ?_) (by' := ?_) (X := ?_) (Y := ?_) ?_ ?_ ?_ ?_ ?_ ?_); rotate_left 5; (first | (with_reducible exact wanted_none) | ((with_reducible refine wanted_some ?_); rfl)); (rfl); (rfl); (first | assumption | ((refine Is.lit ?_); decide +kernel) | (refine Is.ofInt _ _)); (first | assumption | ((refine Is.lit ?_); decide +kernel) | (refine Is.ofInt _ _)); (intro r nd hr); (try simp only [Act.put, List.setIfInBounds_toArray, List.set_cons_succ, List.set_cons_zero, World.drewN_drewN])) | ((with_reducible refine wpList_fquo (k := ?_) (bx := ?_) (by' := ?_) (X := ?_) (Y := ?_) ?_ ?_ ?_ ?_ ?_ ?_); rotate_left 5; (first | (with_reducible exact wanted_none) | ((with_reducible refine wanted_some ?_); rfl)); (rfl); (rfl); (first | assumption | ((refine Is.lit ?_); decide +kernel) | (refine Is.ofInt _ _)); (first | assumption | ((refine Is.lit ?_); decide +kernel) | (refine Is.ofInt _ _)); (intro r nd hr); (try simp only [Act.put, List.setIfInBounds_toArray, List.set_cons_succ, List.set_cons_zero, World.drewN_drewN]))))
        refine ⟨⟨k + 1, _, by omega, by simp, rfl, by assumption, _, rfl⟩, ?_⟩
        show n - (((k : Nat) : Int) + 1).toNat < n - ((k : Nat) : Int).toNat
        omega
      · go_wp2
        obtain rfl : k = n := by omega
        all_goals go_ret2
        exact ⟨_, rfl, hr, q, rfl⟩
  · rw [if_neg hn, decide_eq_false hn]
    go_enter Tryz.func30, Tryz.ntmps30
    go_wp2
    go_ret2
    exact ⟨0, rfl, (Is.lit (by decide +kernel) : Is .f32 0 0), 0, rfl⟩








end Go.Proofs.YtianaalokclklaaGreatDoor
end

/-
  CONTRACTS: hills: handed on, compared, marked; rows of numbers compared and asked for finiteness.
-/
section
set_option linter.unusedSimpArgs false
set_option linter.unusedVariables false
namespace Go.Proofs.YtianaalokclklaaGreatDoor
open Go.RowKit Go.Fl

/-- a new row -/
def ORet (n : Nat) (xs : List Nat) (w : World) (e : Ending) (w' : World) : Prop := ∃ ao, e = .returned (.slice ao n n) ∧ ORow w.heap.size w'.heap.size w' ao n xs ∧ Bel w w'

theorem ffill_own {w wr : World} {n : Nat} {xs : List Nat} (h : FFill w wr n n xs) (hl : xs.length = n) (hw : ∀ i, i < n → xs.getD i 0 < 4294967296) : ORow w.heap.size wr.heap.size wr (some ⟨w.heap.size, 0, none⟩) n xs :=
  ⟨h.done hl hw, fun a ha => by cases ha; exact ⟨Nat.le_refl _, h.lt, h.lt, h.thaw⟩⟩

theorem mk_add (k j : Nat) : ((k + j : Nat) : Int) + 1 = ((k + (j + 1) : Nat) : Int) := by omega
theorem val_i64 {a b : Int} (h : a = b) : Value.int .i64 a = .int .i64 b := by rw [h]

/-! ### rows compared -/
section
variable {P : Program} {f : FuncId} {args : Array Value} {w : World} {v : Value}
theorem cg_same (h : Calls P f args w (fun e w' => e = .returned v ∧ w = w')) : Rk.CallGives P Bel f args w (Rk.Is1 v) :=
  h.mono fun e w' ⟨he, hw⟩ => by subst he; subst hw; exact ⟨_, rfl, Bel.refl _, rfl⟩
theorem cg_vret (h : Calls P f args w (VRet v w)) : Rk.CallGives P Bel f args w (Rk.Is1 v) :=
  h.mono fun e w' ⟨he, hw⟩ => ⟨_, he, (Bel.refl _).dr hw, rfl⟩
theorem cg_bret (h : Calls P f args w (BRet v w)) : Rk.CallGives P Bel f args w (Rk.Is1 v) :=
  h.mono fun e w' ⟨he, hw⟩ => ⟨_, he, hw, rfl⟩
theorem cg_fret {k : FloatKind} {X : Nat} (h : Calls P f args w (FRet k X w)) : Rk.CallGives P Bel f args w (Rk.IsF k X) :=
  h.mono fun e w' ⟨r, he, hr, hw⟩ => ⟨_, he, (Bel.refl _).dr hw, r, rfl, hr⟩
theorem bret_of_vret (h : Calls P f args w (VRet v w)) : Calls P f args w (BRet v w) := h.mono fun e w' ⟨he, hw⟩ => ⟨he, (Bel.refl _).dr hw⟩
end
theorem sameB_of_len {xs ys : List Nat} {n k : Nat} (h : allB (fun i => cn .f32 (xs.getD i 0) == cn .f32 (ys.getD i 0)) k = true) (g : (cn .f32 (xs.getD k 0) == cn .f32 (ys.getD k 0)) = true) :
    allB (fun i => cn .f32 (xs.getD i 0) == cn .f32 (ys.getD i 0)) (k + 1) = true := allB_succ h g

end Go.Proofs.YtianaalokclklaaGreatDoor
end

/-
  CONTRACTS: a row of 32-bit numbers of the call's own, made number by number; numbers read, the program's.
-/
section
set_option linter.unusedSimpArgs false
set_option linter.unusedVariables false
namespace Go.Proofs.YtianaalokclklaaGreatDoor
open Go.RowKit Go.Fl

def flts (xs : List Nat) : List Value := xs.map fun x => .float .f32 x
/-- a row of 32-bit numbers of the call's own -/
def FRw (w wr : World) (v : Value) (xs : List Nat) : Prop := ∃ g cap, v = .slice (some ⟨g, 0, none⟩) xs.length cap ∧ wr.ownsRow w.heap.size 28 1 v xs.length (flts xs) ∧ Bel w wr
theorem FRw.bel {w wr w1 : World} {v : Value} {xs : List Nat} (h : FRw w wr v xs) (hb : Bel wr w1) : FRw w w1 v xs := by
  obtain ⟨g, cap, rfl, h1, h2⟩ := h
  exact ⟨g, cap, rfl, own_belx (bs := none) h1 (BelX.of hb) (by intro j hj; cases hj), h2.trans hb⟩
theorem FRw.start (w wr : World) (hb : Bel w wr) : FRw w (wr.alloc (.cells #[] 28)) (.slice (some ⟨wr.heap.size, 0, none⟩) 0 0) [] :=
  ⟨_, _, rfl, World.ownsRow_made wr #[] 0 hb.size (by unfold maxLen; omega) rfl, hb.alloc _⟩
theorem FRw.next {w wr w2 : World} {v v2 : Value} {xs : List Nat} {x : Nat} {o : Obj} (h : FRw w wr v xs) (hown : w2.ownsRow w.heap.size 28 1 v2 (xs.length + 1) (flts xs ++ [.float .f32 x])) (hg : (wr.alloc o).grownBy w2 v.ownBlock) : FRw w w2 v2 (xs ++ [x]) := by
  obtain ⟨g, cap, rfl, h1, h2⟩ := h
  have e : flts xs ++ [.float .f32 x] = flts (xs ++ [x]) := by simp [flts]
  have e2 : xs.length + 1 = (xs ++ [x]).length := by simp
  rw [e] at hown
  obtain ⟨g2, cap2, rfl⟩ := own_succ hown
  have hs := h2.size
  have hb : Below w.heap.size (wr.alloc o) w2 := (Below.refl _ _).grown hg (by simp; omega) (own_row h1)
  exact ⟨g2, cap2, by rw [e2], by rw [← e2]; exact hown, Below.trans (h2.alloc o) hb⟩
theorem PBlk.nextF {w wr w2 : World} {v : Value} {xs : List Nat} {g N : Nat} {o : Obj} {f : Nat → List UInt8} {cs : Array Value} (h : PBlk wr g N f cs) (hI : FRw w wr v xs) (hg : (wr.alloc o).grownBy w2 v.ownBlock) : PBlk w2 g N f cs := by
  obtain ⟨g1, cap, rfl, h1, h2⟩ := hI
  refine ⟨grown_keep (w1 := wr.alloc o) (o := .cells cs 9 (0, 0)) ?_ ?_ hg (own_far h1 (by decide) h.heap), h.at'⟩
  · rw [((Bel.refl wr).alloc o).block g h.lt]; exact h.heap
  · have := h.lt; simp; omega
theorem FRw.done {w wr : World} {v : Value} {xs : List Nat} (h : FRw w wr v xs) (hz : ∀ i, i < xs.length → xs.getD i 0 < 4294967296) : ∃ ao c, v = .slice ao xs.length c ∧ ORow w.heap.size wr.heap.size wr ao xs.length xs := by
  obtain ⟨g, cap, rfl, h1, h2⟩ := h
  refine ⟨_, cap, rfl, ⟨rfl, fun hn => ⟨g, 0, rfl, (World.ownsRow.lt h1 g rfl).2, fun i hi => ?_⟩, hz⟩, fun a ha => ?_⟩
  · have := World.ownsRow.cells h1 rfl i _ (show (flts xs)[i]? = some (.float .f32 (xs.getD i 0)) by simp [flts, hi, List.getD_eq_getElem?_getD])
    rw [Nat.zero_add]
    unfold Addr.add at this
    simp at this
    split at this
    · rename_i h0; rw [h0]; rw [h0] at this; exact this
    · exact this
  · cases ha
    rcases h1.2 with ⟨e, _⟩ | ⟨g2, cap2, cur, e, hb, h3, _⟩
    · cases e
    · cases e
      have hl := (Array.getElem?_eq_some_iff.1 h3).1
      exact ⟨hb, hl, hl, cells_free h3⟩
def rdB (l : List UInt8) : Bool := noneB l || (decide ((pcs l).length ≤ 256) && allB (fun i => hexB (pieceN l i)) (pcs l).length)
def rdN (l : List UInt8) : Nat := if rdB l && !noneB l then (pcs l).length else 0
theorem rdN_le (l : List UInt8) : rdN l ≤ 256 := by
  unfold rdN
  cases h1 : noneB l with
  | true => rw [Bool.not_true, Bool.and_false]; simp
  | false =>
    cases h2 : rdB l with
    | false => simp
    | true =>
      unfold rdB at h2
      rw [h1, Bool.false_or, Bool.and_eq_true, decide_eq_true_eq] at h2
      simpa using h2.1
/-- the words read so far are the numbers -/
structure RdS (l : List UInt8) (k : Nat) (xs : List Nat) : Prop where
  len : xs.length = k
  is : ∀ j, j < k → Is .f32 (xs.getD j 0) (valH (pieceN l j))
theorem RdS.start (l : List UInt8) : RdS l 0 [] := ⟨rfl, fun j h => absurd h (by omega)⟩
theorem RdS.next {l : List UInt8} {k x : Nat} {xs : List Nat} (h : RdS l k xs) (hx : Is .f32 x (valH (pieceN l k))) : RdS l (k + 1) (xs ++ [x]) := by
  have hl := h.len
  refine ⟨by simp [hl], fun j hj => ?_⟩
  by_cases hlt : j < k
  · have := h.is j hlt
    rw [List.getD_eq_getElem?_getD] at this ⊢
    rw [List.getElem?_append_left (by omega)]
    exact this
  · obtain rfl : j = k := by omega
    rw [List.getD_eq_getElem?_getD, List.getElem?_append_right (by omega), hl, Nat.sub_self]
    exact hx
/-- the numbers whose text a text is -/
def RNRet (l : List UInt8) (w : World) (e : Ending) (w' : World) : Prop := ∃ xs ao c, e = .returned (.tuple #[.slice ao (rdN l) c, .bool (rdB l)]) ∧ ORow w.heap.size w'.heap.size w' ao (rdN l) xs ∧ (∀ j, j < rdN l → cn .f32 (xs.getD j 0) = valH (pieceN l j)) ∧ Bel w w'
theorem RNRet.no {l : List UInt8} {w w' : World} (h : rdB l = false) (hb : Bel w w') : RNRet l w (.returned (.tuple #[.slice none 0 0, .bool false])) w' := by
  have e : rdN l = 0 := by unfold rdN; rw [h]; rfl
  refine ⟨[], none, 0, by rw [e, h], ?_, fun j hj => absurd hj (by omega), hb⟩
  rw [e]; exact ORow.nil _ _ _
theorem RNRet.yes {l : List UInt8} {w w' : World} {v : Value} {k : Nat} {xs : List Nat} (h : rdB l = true) (hk : rdN l = k) (hI : FRw w w' v xs) (hS : RdS l k xs) : RNRet l w (.returned (.tuple #[v, .bool true])) w' := by
  have hl := hS.len
  obtain ⟨ao, c, rfl, hO⟩ := hI.done (fun i hi => by have := (hS.is i (by omega)).1; rw [w32] at this; exact this)
  obtain ⟨_, _, _, _, hb⟩ := hI
  subst hk
  rw [hl] at hO ⊢
  exact ⟨xs, ao, c, by rw [h], hO, fun j hj => (hS.is j hj).2, hb⟩
set_option maxRecDepth 100000 in
set_option maxHeartbeats 2000000 in
theorem iReadNumbers_any (w : World) (l : List UInt8) (hl : l.length ≤ 1048576) (he : Errs w) (ht : Tz w) (hM : MaxL w) : Calls Tryz.prog 32 #[.string ⟨l.toArray⟩] w (RNRet l w) := by
  obtain ⟨i0, hi0, hz0, hz1, hz2⟩ := info_parts infoF32
  have hF := Lib.hid (show Errs w ∧ Tz w from ⟨he, ht⟩)
  have hM1 := Lib.hid hM
  clear he ht hM
  cases hq : noneB l with
  | true =>
    have hb := Lib.hid (show rdB l = true by unfold rdB; rw [hq]; rfl)
    have hN := Lib.hid (show rdN l = 0 by unfold rdN; rw [hq, Bool.not_true, Bool.and_false]; rfl)
    obtain rfl : l = [110, 111, 110, 101] := by unfold noneB at hq; simpa using hq
    clear hq
    go_enter Tryz.func32, Tryz.ntmps32
    go_wp2_with fail
    refine (apart_none _).mono ?_
    rintro e w1 ⟨rfl, rfl⟩
    go_wp2_with fail
    refine wp_loop_rounds 1 ?_
    rw [rounds_succ]
    go_wp2_with fail
    refine bodyPost_ret (v := .tuple #[.slice (some ⟨w.heap.size, 0, none⟩) 0 0, .bool true]) (by simp [results, Tryz.results32, go_sem]) rfl ?_
    exact RNRet.yes (k := 0) (xs := []) hb.out hN.out (FRw.start w w (Bel.refl _)) (RdS.start _)
  | false =>
    obtain ⟨N, hN⟩ : ∃ N, N = (pcs l).length := ⟨_, rfl⟩
    have hP := Lib.hid (piece_len l)
    have hl' := Lib.hid hl
    have hNl : N ≤ 1048577 := by rw [hN]; exact Nat.le_trans (pc_len 44 l []) (by omega)
    have hrd := Lib.hid (show rdB l = (decide (N ≤ 256) && allB (fun i => hexB (pieceN l i)) N) by unfold rdB; rw [hq, ← hN]; rfl)
    have hrn := Lib.hid (show rdB l = true → rdN l = N from fun e => by unfold rdN; rw [e, hq, ← hN]; rfl)
    replace hq := Lib.hid hq
    have hN1 : 1 ≤ N := by
      rw [hN]
      cases h : pcs l with
      | nil => exact absurd h (pc_ne 44 l [])
      | cons _ _ => simp
    replace hN := Lib.hid hN
    obtain ⟨B, hB⟩ : ∃ B, B = decide (N ≤ 256) := ⟨_, rfl⟩
    rw [← hB] at hrd
    have hB' := Lib.hid hB
    clear hB
    go_enter Tryz.func32, Tryz.ntmps32
    go_wp2_with fail
    refine (apart_any _ l hl'.out hM1.out hq.out).mono ?_
    rintro e w1 ⟨g5, cs, rfl, hPB, hB1⟩
    rw [← hN.out] at hPB
    rw [← hN.out, ← hB'.out]
    have hI := Lib.hid (FRw.start w w1 hB1)
    replace hPB := Lib.hid (hPB.bel ((Bel.refl w1).alloc (.cells #[] 28)))
    clear hB1
    cases B with
    | false =>
      have hno := Lib.hid (show rdB l = false by rw [hrd.out, Bool.false_and])
      go_wp2_with fail
      go_loopw [6, 19] (fun v iv wr => v = .slice (some ⟨w1.heap.size, 0, none⟩) 0 0 ∧ iv = .int .i64 0 ∧ Hid (FRw w wr v []) ∧ Hid (PBlk wr g5 N (pieceN l) cs)) (fun _ iv _ => 0)
      case atStart => exact ⟨rfl, rfl, hI, hPB⟩
      case round =>
        obtain ⟨rfl, rfl, hS, hPk⟩ := hrel
        have h1 := hPk.out.cell (j := 0) (by omega)
        obtain ⟨_, _, _, _, hbel⟩ := hS.out
        have hF1 := Lib.hid (show Errs wr ∧ Tz wr from ⟨errs_bel hF.out.1 hbel, tz_bel hF.out.2 hbel⟩)
        have hkl := Lib.hid (show (pieceN l 0).length ≤ 1048576 by have := hP.out 0; have := hl'.out; omega)
        clear hbel
        go_wp2_with fail
        refine (readDigits_any _ (pieceN l 0) hkl.out hF1.out.1 hF1.out.2).mono ?_
        rintro e w2 ⟨r, X, rfl, hi, hX, hB⟩
        replace hS := Lib.hid (hS.out.bel hB)
        clear hB hi hX
        go_wp2_with fail
        refine bodyPost_ret (v := .tuple #[.slice none 0 0, .bool false]) (by simp [results, Tryz.results32, go_sem]) rfl ?_
        obtain ⟨_, _, _, _, hb⟩ := hS.out
        exact RNRet.no hno.out hb
    | true =>
      have hN256 : N ≤ 256 := by have := hB'.out; simpa using this.symm
      go_wp2_with fail
      go_loopw [6, 19] (fun v iv wr => ∃ (k : Nat) (xs : List Nat), k ≤ N ∧ iv = .int .i64 (k : Int) ∧ Hid (allB (fun i => hexB (pieceN l i)) k = true) ∧ Hid (RdS l k xs) ∧ Hid (FRw w wr v xs) ∧ Hid (PBlk wr g5 N (pieceN l) cs)) (fun _ iv _ => N - (intOf iv).toNat)
      case atStart => exact ⟨0, [], Nat.zero_le _, rfl, Lib.hid rfl, Lib.hid (RdS.start l), hI, hPB⟩
      case round =>
        obtain ⟨k, xs, hk, rfl, hs, hR, hS, hPk⟩ := hrel
        have hlen := hR.out.len
        obtain ⟨g, cap, rfl, hown, hbel⟩ := hS.out
        by_cases hlt : k < N
        · have h1 := hPk.out.cell hlt
          have hF1 := Lib.hid (show Errs wr ∧ Tz wr from ⟨errs_bel hF.out.1 hbel, tz_bel hF.out.2 hbel⟩)
          clear hown hbel
          have hkl := Lib.hid (show (pieceN l k).length ≤ 1048576 by have := hP.out k; have := hl'.out; omega)
          cases hd : hexB (pieceN l k) with
          | false =>
            have hno := Lib.hid (show rdB l = false by rw [hrd.out, allB_no hlt hd, Bool.and_false])
            replace hd := Lib.hid hd
            go_wp2_with fail
            refine (readDigits_any _ (pieceN l k) hkl.out hF1.out.1 hF1.out.2).mono ?_
            rintro e w2 ⟨r, X, rfl, hi, hX, hB⟩
            rw [hd.out]
            replace hS := Lib.hid (hS.out.bel hB)
            clear hB hi hX
            go_wp2_with fail
            refine bodyPost_ret (v := .tuple #[.slice none 0 0, .bool false]) (by simp [results, Tryz.results32, go_sem]) rfl ?_
            obtain ⟨_, _, _, _, hb⟩ := hS.out
            exact RNRet.no hno.out hb
          | true =>
            have hs' := Lib.hid (show allB (fun i => hexB (pieceN l i)) (k + 1) = true from allB_succ hs.out hd)
            replace hd := Lib.hid hd
            go_wp2_with fail
            refine (readDigits_any _ (pieceN l k) hkl.out hF1.out.1 hF1.out.2).mono ?_
            rintro e w2 ⟨r, X, rfl, hi, hX, hB⟩
            obtain rfl := hX hd.out
            have hR2 := Lib.hid (hR.out.next hi)
            rw [hd.out]
            replace hS := Lib.hid (hS.out.bel hB)
            replace hPk := Lib.hid (hPk.out.bel hB)
            clear hB hX hi
            obtain ⟨_, _, hvv, hown, hbel⟩ := hS.out
            cases hvv
            rw [hlen] at hown
            have hbs := hbel.size
            go_wp2_with (at_builtin; refine wpList_app1 rfl _ _ 52 rfl w.heap.size 28 i0 _ 4 Tryz.underlying52 hi0 hz0 hz1 hz2 rfl (.slice (some ⟨g, 0, none⟩) k cap) k _ rfl hown rfl rfl (by omega) (by unfold maxLen; omega) hbs ?_; intro v2 w3 hown2 hgrow)
            rw [← hlen] at hown2 hgrow
            have hN2 := Lib.hid (hS.out.next hown2 hgrow)
            replace hPk := Lib.hid (hPk.out.nextF hS.out hgrow)
            clear hown2 hgrow
            go_wp2_with fail
            refine ⟨⟨k + 1, xs ++ [r], by omega, by simp, hs', hR2, hN2, hPk⟩, ?_⟩
            show N - (((k : Nat) : Int) + 1).toNat < N - ((k : Nat) : Int).toNat
            omega
        · obtain rfl : k = N := by omega
          have hyes := Lib.hid (show rdB l = true by rw [hrd.out, hs.out]; rfl)
          clear hown
          go_wp2_with fail
          refine bodyPost_ret (v := .tuple #[.slice (some ⟨g, 0, none⟩) xs.length cap, .bool true]) (by simp [results, Tryz.results32, go_sem]) rfl ?_
          exact RNRet.yes hyes.out (hrn.out hyes.out) hS.out hR.out
end Go.Proofs.YtianaalokclklaaGreatDoor
end

/-
  CONTRACTS: numbers read, the reference's.
-/
section
set_option linter.unusedSimpArgs false
set_option linter.unusedVariables false
namespace Go.Proofs.YtianaalokclklaaGreatDoor
open Go.RowKit Go.Fl

theorem valH_take_lt {q : List UInt8} {n : Nat} (h : q.length = n) (hn : n ≤ 8) (j : Nat) : valH (q.take j) < 4294967296 := by
  have h2 := valH_bd (q.take j)
  have h4 : (q.take j).length ≤ 8 := by rw [List.length_take]; omega
  have h5 : (16 : Nat) ^ (q.take j).length ≤ 16 ^ 8 := Nat.pow_le_pow_right (by omega) h4
  have h6 : (16 : Nat) ^ 8 = 4294967296 := by decide
  omega
/-- the digits read so far -/
structure DgS (q : List UInt8) (j a : Nat) : Prop where
  val : a = valH (q.take j)
  all : ∀ i, i < j → 0 ≤ hdig (q.getD i 0)
theorem DgS.start (q : List UInt8) : DgS q 0 0 := ⟨rfl, fun i h => absurd h (by omega)⟩
theorem DgS.next {q : List UInt8} {j a d : Nat} (h : DgS q j a) (hj : j < q.length) (hd : hdig (q.getD j 0) = (d : Int)) : DgS q (j + 1) (16 * a + d) := by
  refine ⟨by rw [valH_take hj, ← h.val, hd]; omega, fun i hi => ?_⟩
  by_cases e : i = j
  · subst e; rw [hd]; omega
  · exact h.all i (by omega)
theorem DgS.lt {q : List UInt8} {j a : Nat} (h : DgS q j a) (hq : q.length = 8) : a < 4294967296 := by rw [h.val]; exact valH_take_lt hq (by omega) j
theorem DgS.done {q : List UInt8} {a : Nat} (h : DgS q 8 a) (hq : q.length = 8) : a = valH q ∧ hexB q = (cn .f32 a == a) := by
  have e : a = valH q := by rw [h.val, List.take_of_length_le (by omega)]
  have h2 : allH q = true := by
    unfold allH
    rw [List.all_eq_true]
    intro c hc
    obtain ⟨i, hi, rfl⟩ := List.getElem_of_mem hc
    have := h.all i (by omega)
    rw [List.getD_eq_getElem?_getD, List.getElem?_eq_getElem hi] at this
    simpa using this
  refine ⟨e, ?_⟩
  unfold hexB
  rw [decide_eq_true hq, h2, ← e]
  rfl
theorem hexB_dig {q : List UInt8} {j : Nat} (hj : j < q.length) (hd : hdig (q.getD j 0) < 0) : hexB q = false := by
  cases h : hexB q with
  | false => rfl
  | true =>
    unfold hexB at h
    rw [Bool.and_eq_true, Bool.and_eq_true] at h
    have := allH_at h.1.2 hj
    omega
theorem hexB_len {q : List UInt8} (h : q.length ≠ 8) : hexB q = false := by unfold hexB; rw [decide_eq_false h]; rfl
theorem hdig_a {c : UInt8} {B : Nat} (hB : B = c.toNat) (h1 : 48 ≤ B) (h2 : B ≤ 57) : hdig c = ((B - 48 : Nat) : Int) := by
  unfold hdig; rw [if_pos (by omega)]; omega
theorem hdig_b {c : UInt8} {B : Nat} (hB : B = c.toNat) (h1 : 97 ≤ B) (h2 : B ≤ 102) : hdig c = ((B - 97 + 10 : Nat) : Int) := by
  unfold hdig; rw [if_neg (by omega), if_pos (by omega)]; omega
theorem hdig_c {c : UInt8} {B : Nat} (hB : B = c.toNat) (h1 : ¬ (48 ≤ B ∧ B ≤ 57)) (h2 : ¬ (97 ≤ B ∧ B ≤ 102)) : hdig c < 0 := by
  unfold hdig; rw [if_neg (by omega), if_neg (by omega)]; omega
end Go.Proofs.YtianaalokclklaaGreatDoor
end

/-
  THE LAW 'FnExactNumbersText': its contracts and its walk.
-/
section
set_option linter.unusedSimpArgs false
set_option linter.unusedVariables false
namespace Go.Proofs.YtianaalokclklaaGreatDoor
open Go.RowKit Go.Fl

abbrev hexs (xs : List Nat) : Nat → List UInt8 := fun i => hex8 (cn .f32 (xs.getD i 0))
set_option maxRecDepth 100000 in
set_option maxHeartbeats 1000000 in
theorem iNumbersText_any (w : World) (ao : Option Addr) (n c : Nat) (xs : List Nat) (hA : FRow w ao n xs) (hm : n ≤ 1048576) (ht : Tz w) :
    Calls Tryz.prog 31 #[.slice ao n c] w (TRet (decide (n ≤ 256)) (txt (hexs xs) n) w) := by
  have ht' := Lib.hid ht
  have hA' := Lib.hid hA
  clear hA ht
  by_cases h256 : n ≤ 256
  case neg =>
    go_enter Tryz.func31, Tryz.ntmps31
    go_wp2_with fail
    refine bodyPost_ret (v := .tuple #[.string ⟨#[]⟩, .bool false]) (by simp [results, Tryz.results31, go_sem]) rfl ?_
    unfold TRet
    rw [decide_eq_false h256]
    exact ⟨rfl, Bel.refl _⟩
  case pos =>
    have hdT := Lib.hid (decide_eq_true h256)
    have hlen := Lib.hid (tx_len (hexs xs) 8 n (fun i hi => Nat.le_of_eq (hexK_len 8 _)))
    obtain ⟨i0, hi0, hz0, hz1, hz2⟩ := info_parts infoStr
    go_enter Tryz.func31, Tryz.ntmps31
    go_wp2_with fail
    go_loopw [4, 13] (fun v i wr => ∃ k : Nat, k ≤ n ∧ i = .int .i64 k ∧ Hid (LRow w wr v (hexs xs) k)) (fun _ i _ => n - (intOf i).toNat)
    case atStart => exact ⟨0, Nat.zero_le _, rfl, Lib.hid (LRow.start w w _ (Bel.refl _))⟩
    case round =>
      obtain ⟨k, hk, rfl, hS⟩ := hrel
      by_cases hlt : k < n
      · obtain ⟨b, off, rfl, hb, hcell⟩ := hA'.out.at0 (by omega)
        obtain ⟨g, cap, rfl, _, hbel⟩ := hS.out
        have h1 := (hbel.cell (p := ⟨b, off + k, none⟩) hb).trans (hcell k hlt)
        clear hcell
        have his := hA'.out.is hlt
        have ht1 := Lib.hid (tz_bel ht'.out hbel)
        clear hbel
        obtain ⟨Z, hZ⟩ : ∃ Z, Z = xs.getD k 0 := ⟨_, rfl⟩
        have hD := Lib.hid (show hex8 (cn .f32 Z) = hexs xs k by rw [hZ])
        rw [← hZ] at h1 his
        replace hZ := Lib.hid hZ
        replace his := Lib.hid his
        go_wp2_with fail
        refine (digits_any _ _ _ his.out ht1.out).mono ?_
        rintro e w2 ⟨rfl, hB2⟩
        replace hS := Lib.hid (hS.out.bel hB2)
        clear hB2
        rw [hD.out]
        obtain ⟨_, _, hvv, hown, hbel⟩ := hS.out
        cases hvv
        have hbs := hbel.size
        go_wp2_with (at_builtin; refine wpList_app1 rfl _ _ 69 rfl w.heap.size 9 i0 _ 16 Tryz.underlying69 hi0 hz0 hz1 hz2 rfl (.slice (some ⟨g, 0, none⟩) k cap) k _ rfl hown rfl rfl (by omega) (by unfold maxLen; omega) hbs ?_; intro v2 w3 hown2 hgrow)
        have hN := Lib.hid (hS.out.next hown2 hgrow)
        clear hown2 hgrow
        go_wp2_with fail
        refine ⟨⟨k + 1, by omega, by simp, hN⟩, ?_⟩
        show n - (((k : Nat) : Int) + 1).toNat < n - ((k : Nat) : Int).toNat
        omega
      · obtain rfl : k = n := by omega
        obtain ⟨g, cap, rfl, hown, hbel⟩ := hS.out
        obtain ⟨hcc, hgl, hkc⟩ := LRow.cells hown
        have hbel' := Lib.hid hbel
        have hcc' := Lib.hid hcc
        have hll := hlen.out k (Nat.le_refl _)
        have hgl' : g < wr.heap.size := by
          rcases hown.2 with ⟨e1, _⟩ | ⟨g2, cap2, cur, e1, _, e3, _⟩
          · cases e1
          · cases e1; exact (Array.getElem?_eq_some_iff.1 e3).1
        clear hcc hgl hbel hown
        go_wp2_with fail
        refine (joined_any _ g cap k (hexs xs) hcc'.out hgl' (by omega) hkc (by omega)).mono ?_
        rintro e w3 ⟨rfl, hB3⟩
        have hB4 := Lib.hid (hbel'.out.trans hB3)
        clear hB3
        go_wp2_with fail
        refine bodyPost_ret (v := .tuple #[.string ⟨(txt (hexs xs) k).toArray⟩, .bool true]) (by simp [results, Tryz.results31, go_sem]) rfl ?_
        unfold TRet
        rw [hdT.out]
        exact ⟨rfl, hB4.out⟩
theorem gDB : Tryz.prog.globalNamed "math/bits.deBruijn64tab" = some 6 := by kernel_rfl
theorem gDBt : (Tryz.prog.globals[6]?).map (·.type) = some 159 := by kernel_rfl
def dbTab : List Int := [0, 1, 56, 2, 57, 49, 28, 3, 61, 58, 42, 50, 38, 29, 17, 4, 62, 47, 59, 36, 45, 43, 51, 22, 53, 39, 33, 30, 24, 18, 12, 5, 63, 55, 48, 27, 60, 41, 37, 16, 46, 35, 44, 21, 52, 32, 23, 11, 54, 26, 40, 15, 34, 20, 31, 10, 25, 14, 19, 9, 13, 8, 7, 6]
theorem tz_of {r : List (String × DataW Unit)} {W : World} (h : laidMet Tryz.prog (("math/bits.deBruijn64tab", Rows.laid_math_bits_deBruijn64tab) :: r) W) : Tz W := by
  have hT := Lib.tabIs_of_head (k := .u8) (zs := dbTab) (n := 64) gDB gDBt Tryz.underlying159 Tryz.underlying5 (by kernel_rfl) (by kernel_rfl) h
  exact hT.cell gDB 15 (by decide)
end Go.Proofs.YtianaalokclklaaGreatDoor
end

/-
  THE LAW 'FnExactReadNumbers': its walk.
-/
section
set_option linter.unusedSimpArgs false
set_option linter.unusedVariables false
namespace Go.Proofs.YtianaalokclklaaGreatDoor
open Go.RowKit Go.Fl

theorem eqAll_of {xs ys : List Nat} {n : Nat} {X : Nat → Nat} (hx : xs.length = n) (hy : ys.length = n) (h1 : ∀ j, j < n → cn .f32 (xs.getD j 0) = X j) (h2 : ∀ j, j < n → cn .f32 (ys.getD j 0) = X j) : eqAll xs ys := by
  intro j
  by_cases hj : j < n
  · rw [h1 j hj, h2 j hj]
  · rw [List.getD_eq_getElem?_getD, List.getD_eq_getElem?_getD, List.getElem?_eq_none (by omega), List.getElem?_eq_none (by omega)]
/-- the variables of the library that the law reads -/
def Fx4 (w : World) : Prop := Errs w ∧ Tz w ∧ MaxL w
theorem fx4_bel {a b : World} (h : Fx4 a) (hb : Bel a b) : Fx4 b := ⟨errs_bel h.1 hb, tz_bel h.2.1 hb, maxl_bel h.2.2 hb⟩
end Go.Proofs.YtianaalokclklaaGreatDoor
end

/-
  THE WALK's LAW FOR THE WIDENING OF A COMPLEX NUMBER. (No program here.)
-/
section
set_option linter.unusedVariables false
set_option linter.unusedSimpArgs false
namespace Go.Fl
open Go Ieee
section
variable {P : Program} {ops : Array Oper} {rest : List Oper} {a : Act} {Q : Exit → Act → World → Prop} {w : World} {dst : Option Tmp} {ty : TypeId} {pos : String} {after : Array Edge} {guard : Option (Nat × Bool)} {x y : Operand} {t t' : TypeId}

theorem run_f2f (w : World) (src d : TypeId) {us : TypeDesc} (hs : P.underlying src = some us) (hd : P.underlying d = some (.float .f64)) {b B : Nat} (hb : Is .f32 b B) :
    ∃ r n, (Conv.floatToFloat .f32 b .f64).run P w = .ok (.float .f64 r) (w.drewN n) ∧ Is .f64 r (wid B) := by
  obtain ⟨r, n, hrun, hr⟩ := run_conv (P := P) w src d .f32 .f64 (by decide) hs hd b (widen_ok hb.1)
  refine ⟨r, n, ?_, by unfold wid; rw [← hb.2]; exact hr⟩
  rw [← hrun]
  cases us <;> simp [convert, run_underlying hs, run_underlying hd]

theorem wpList_cwiden {src d sf df : TypeId} {us uf : TypeDesc} (hs : P.underlying src = some us) (hd : P.underlying d = some (.complex .f64)) (hsf : P.underlying sf = some uf) (hdf : P.underlying df = some (.float .f64)) {b1 b2 B1 B2 : Nat}
    (hw : Region.wanted ⟨dst, .convert src d x, ty, pos, after, guard⟩ (yielded ops a.tmps) = true) (ex : a.eval x = .complex .f32 b1 b2) (h1 : Is .f32 b1 B1) (h2 : Is .f32 b2 B2)
    (hK : ∀ r s nd, Is .f64 r (wid B1) → Is .f64 s (wid B2) → wpList P ops Q rest (a.put dst (.complex .f64 r s)) (w.drewN nd)) :
    wpList P ops Q (⟨dst, .convert src d x, ty, pos, after, guard⟩ :: rest) a w := by
  obtain ⟨r, n, e1, g1⟩ := run_f2f w sf df hsf hdf h1
  obtain ⟨s, m, e2, g2⟩ := run_f2f (w.drewN n) sf df hsf hdf h2
  rw [World.drewN_drewN] at e2
  refine wpList_run (v := .complex .f64 r s) (n := n + m) hw ?_ (hK r s _ g1 g2)
  have : (convert src d (.complex .f32 b1 b2)).run P w = .ok (.complex .f64 r s) (w.drewN (n + m)) := by
    cases us <;> simp [convert, run_underlying hs, run_underlying hd, Conv.complexToComplex, e1, e2]
  simp [execOp, ex, this]
end
end Go.Fl
end

/-
  ROWS OF VALUES OF ONE CELL OF THE CALL's OWN; complex numbers widened in a region, narrowed, compared. (No program here.)
-/
section
set_option linter.unusedVariables false
set_option linter.unusedSimpArgs false
namespace Go.Fl
open Go Ieee Go.RowKit

/-- '.slice ao n c' reads as the values 'f' in 'w' -/
structure VRow (w : World) (ao : Option Addr) (n : Nat) (f : Nat → Value) : Prop where
  at0 : 0 < n → ∃ b off, ao = some ⟨b, off, none⟩ ∧ b < w.heap.size ∧ ∀ i, i < n → w.cell? ⟨b, off + i, none⟩ = some (f i)
theorem VRow.bel {w w' : World} {ao : Option Addr} {n : Nat} {f : Nat → Value} (h : VRow w ao n f) (hb : Bel w w') : VRow w' ao n f := by
  refine ⟨fun hn => ?_⟩
  obtain ⟨b, off, h1, h2, h3⟩ := h.at0 hn
  refine ⟨b, off, h1, Nat.lt_of_lt_of_le h2 hb.size, fun i hi => ?_⟩
  rw [hb.cell (p := ⟨b, off + i, none⟩) h2]
  exact h3 i hi
theorem VRow.only {w w' : World} {ao bo : Option Addr} {n : Nat} {f : Nat → Value} (h : VRow w ao n f) (ho : Only bo w w') (hd : 0 < n → ∀ a b, ao = some a → bo = some b → b.block ≠ a.block) : VRow w' ao n f := by
  refine ⟨fun hn => ?_⟩
  obtain ⟨b, off, h1, h2, h3⟩ := h.at0 hn
  refine ⟨b, off, h1, by rw [ho.size]; exact h2, fun i hi => ?_⟩
  rw [World.cell?_of_block (w := w) (a := ⟨b, off + i, none⟩) (ho.block b (fun a ha => hd hn _ _ h1 ha))]
  exact h3 i hi
/-- a row of the call's own, in a block from 'lo' on and below 'hi' -/
structure VORow (lo hi : Nat) (w : World) (ao : Option Addr) (n : Nat) (f : Nat → Value) : Prop where
  row : VRow w ao n f
  own : ∀ a, ao = some a → lo ≤ a.block ∧ a.block < hi ∧ a.block < w.heap.size ∧ ∀ j, w.frozen? ⟨a.block, j, none⟩ = false
theorem VORow.bel {lo hi : Nat} {w w' : World} {ao : Option Addr} {n : Nat} {f : Nat → Value} (h : VORow lo hi w ao n f) (hb : Bel w w') : VORow lo hi w' ao n f := by
  refine ⟨h.row.bel hb, fun a ha => ?_⟩
  obtain ⟨h1, h2, h3, h4⟩ := h.own a ha
  refine ⟨h1, h2, Nat.lt_of_lt_of_le h3 hb.size, fun j => ?_⟩
  rw [hb.frozen (p := ⟨a.block, j, none⟩) h3]; exact h4 j
theorem VORow.only {lo hi : Nat} {w w' : World} {ao bo : Option Addr} {n : Nat} {f : Nat → Value} (h : VORow lo hi w ao n f) (ho : Only bo w w') (hd : ∀ a b, ao = some a → bo = some b → b.block ≠ a.block) : VORow lo hi w' ao n f := by
  refine ⟨h.row.only ho (fun _ => hd), fun a ha => ?_⟩
  obtain ⟨h1, h2, h3, h4⟩ := h.own a ha
  refine ⟨h1, h2, by rw [ho.size]; exact h3, fun j => ?_⟩
  rw [World.frozen?_of_block (w := w) (a := ⟨a.block, j, none⟩) (ho.block a.block (fun b hb => hd _ _ ha hb))]
  exact h4 j
theorem VORow.nil (lo hi : Nat) (w : World) (f : Nat → Value) : VORow lo hi w none 0 f := ⟨⟨fun h => absurd h (by omega)⟩, fun a h => by cases h⟩
/-- a row under way: the first 'i' of 'n' are written -/
structure VMFill (b off : Nat) (w wr : World) (n i : Nat) (f g : Nat → Value) : Prop where
  only : Only (some ⟨b, off, none⟩) w wr
  cells : ∀ j, j < n → wr.cell? ⟨b, off + j, none⟩ = some (if j < i then g j else f j)
  thaw : ∀ j, wr.frozen? ⟨b, j, none⟩ = false
theorem VMFill.start {lo hi b off : Nat} {w : World} {n : Nat} {f g : Nat → Value} (h : VORow lo hi w (some ⟨b, off, none⟩) n f) (hn : 0 < n) : VMFill b off w w n 0 f g := by
  refine ⟨Only.refl _ _, fun j hj => ?_, (h.own _ rfl).2.2.2⟩
  obtain ⟨b', off', h1, h2, h3⟩ := h.row.at0 hn
  cases h1
  rw [h3 j hj, if_neg (by omega)]
theorem VMFill.next {b off : Nat} {w wr : World} {n i : Nat} {f g : Nat → Value} (h : VMFill b off w wr n i f g) (hi' : i < n) : VMFill b off w (wr.setCell ⟨b, off + i, none⟩ (g i)) n (i + 1) f g := by
  refine ⟨h.only.setCell _ _, fun j hj => ?_, fun j => by rw [World.frozen?_setCell]; exact h.thaw j⟩
  by_cases e : i = j
  · subst e
    rw [World.cell?_setCell_same _ _ _ (h.cells i hi'), if_pos (by omega)]
  · rw [World.cell?_setCell_other _ _ _ _ (by intro he; have := congrArg Addr.off he; simp at this; omega), h.cells j hj]
    by_cases g : j < i
    · rw [if_pos g, if_pos (by omega)]
    · rw [if_neg g, if_neg (by omega)]
theorem VMFill.done {lo hi b off : Nat} {w wr : World} {n : Nat} {f g : Nat → Value} (h : VMFill b off w wr n n f g) (hO : VORow lo hi w (some ⟨b, off, none⟩) n f) : VORow lo hi wr (some ⟨b, off, none⟩) n g := by
  obtain ⟨h1, h2, h3, _⟩ := hO.own _ rfl
  have hs := h.only.size
  refine ⟨⟨fun hn => ⟨b, off, rfl, by rw [hs]; exact h3, fun i hi => by rw [h.cells i hi, if_pos hi]⟩⟩, fun a ha => ?_⟩
  cases ha; exact ⟨h1, h2, by rw [hs]; exact h3, h.thaw⟩
/-- complex numbers with these parts -/
def cvals (xs ys : List Nat) : Nat → Value := fun i => .complex .f32 (xs.getD i 0) (ys.getD i 0)
/-- the mark of a whole number -/
def cm (m : Nat) : Nat := nar (floatOfInt .f64 (m : Int))
def cmOk (m : Nat) : Bool := (floatToFloatBits .f64 (floatOfInt .f64 (m : Int)) .f32).isSome && feq .f32 (cm m) (cm m)
theorem cmOk_all : ∀ m : Fin 300, cmOk m.val = true := by decide +kernel
theorem one_ok : floatToFloatBits .f64 4607182418800017408 .f32 = some 1065353216 := by decide +kernel
theorem one_eq : feq .f32 1065353216 1065353216 = true := by decide +kernel
def cmarks (k : Nat) : Nat → Value := fun i => .complex .f32 (cm (k + i)) 1065353216
section
variable {P : Program}
theorem run_f2n (w : World) (src d : TypeId) {us : TypeDesc} (hs : P.underlying src = some us) (hd : P.underlying d = some (.float .f32)) {b r : Nat} (hb : floatToFloatBits .f64 b .f32 = some r) :
    (Conv.floatToFloat .f64 b .f32).run P w = .ok (.float .f32 r) w := by
  have h := run_convert_float_float w src d .f64 .f32 b r (by rw [hs]; rfl) hd hb
  rw [← h]
  cases us <;> simp [convert, run_underlying hs, run_underlying hd]
/-- a complex number narrowed, both parts exact -/
theorem run_c2n (w : World) (src d sf df : TypeId) {us uf : TypeDesc} (hs : P.underlying src = some us) (hd : P.underlying d = some (.complex .f32)) (hsf : P.underlying sf = some uf) (hdf : P.underlying df = some (.float .f32)) {a b r s : Nat}
    (ha : floatToFloatBits .f64 a .f32 = some r) (hb : floatToFloatBits .f64 b .f32 = some s) : (convert src d (.complex .f64 a b)).run P w = .ok (.complex .f32 r s) w := by
  have e1 := run_f2n w sf df hsf hdf ha
  have e2 := run_f2n w sf df hsf hdf hb
  cases us <;> simp [convert, run_underlying hs, run_underlying hd, Conv.complexToComplex, e1, e2]
theorem run_cne (w : World) (t : TypeId) {a b : Nat} (ha : feq .f32 a a = true) (hb : feq .f32 b b = true) : (binOp .neq t (.complex .f32 a b) (.complex .f32 a b)).run P w = .ok (.bool false) w := by
  unfold feq at ha hb
  simp only [binOp, ne_eq, not_true_eq_false, if_false, Op.complexOp, Op.Complex.cmp, Op.floatCmp, ha, hb]
  simp [asBool]
theorem cm_ok {m : Nat} (h : m < 300) : floatToFloatBits .f64 (floatOfInt .f64 (m : Int)) .f32 = some (cm m) ∧ feq .f32 (cm m) (cm m) = true := by
  have := cmOk_all ⟨m, h⟩
  unfold cmOk at this
  rw [Bool.and_eq_true] at this
  obtain ⟨r, hr⟩ := Option.isSome_iff_exists.1 this.1
  refine ⟨?_, this.2⟩
  have hr' : floatToFloatBits .f64 (floatOfInt .f64 (m : Int)) .f32 = some r := hr
  unfold cm nar
  rw [hr']; rfl
end
end Go.Fl
namespace Go.Rk
open Go Go.Fl
def IsC64 (X Y : Nat) : KSet := fun _ u => ∃ r s, u = .complex .f64 r s ∧ Is .f64 r X ∧ Is .f64 s Y
theorem mon_isC64 {Le : World → World → Prop} (X Y : Nat) : Mon Le (IsC64 X Y) := fun _ _ _ _ h => h
section
variable {P : Program} {ops : Array Oper} {W : World} {Le : World → World → Prop} {Q : Known → Prop} {rest : List Oper} {A : Known} {dst : Option Tmp} {ty : TypeId} {pos : String} {after : Array Edge} {guard : Option (Nat × Bool)} {x y : Operand}
theorem wpR_cwiden (hL : Good Le) {src d sf df : TypeId} {us uf : TypeDesc} (hs : P.underlying src = some us) (hd : P.underlying d = some (.complex .f64)) (hsf : P.underlying sf = some uf) (hdf : P.underlying df = some (.float .f64)) {a b X Y : Nat}
    (h1 : Is .f32 a X) (h2 : Is .f32 b Y) (hy : Yes ops A ⟨dst, .convert src d x, ty, pos, after, guard⟩) (hS : slotS A x = Is1 (.complex .f32 a b)) (h : wpR P ops Le W Q rest (upd A dst (IsC64 (wid X) (wid Y)))) :
    wpR P ops Le W Q (⟨dst, .convert src d x, ty, pos, after, guard⟩ :: rest) A := by
  refine ⟨_, mon_isC64 _ _, gives_run hy fun w hw ac ha => ?_, h⟩
  have e0 := fits_eval ha x (looks_op (by simp [Op.operands]))
  rw [hS] at e0
  have e0' : ac.eval x = .complex .f32 a b := e0
  obtain ⟨r, n, e1, g1⟩ := run_f2f (P := P) w sf df hsf hdf h1
  obtain ⟨s, m, e2, g2⟩ := run_f2f (P := P) (w.drewN n) sf df hsf hdf h2
  rw [World.drewN_drewN] at e2
  refine ⟨.complex .f64 r s, w.drewN (n + m), ?_, hL.draw _ _, r, s, rfl, g1, g2⟩
  have : (convert src d (.complex .f32 a b)).run P w = .ok (.complex .f64 r s) (w.drewN (n + m)) := by
    cases us <;> simp [convert, run_underlying hs, run_underlying hd, Conv.complexToComplex, e1, e2]
  simp [execOp, e0', this]
end
end Go.Rk
end

/-
  CONTRACTS: rows of complex numbers compared, marked, asked for their marks.
-/
section
set_option linter.unusedSimpArgs false
set_option linter.unusedVariables false
namespace Go.Proofs.YtianaalokclklaaGreatDoor
open Go.RowKit Go.Fl

theorem run_store_cx {P : Program} {w : World} {a : Addr} {v : Value} (h : w.cell? a = some v) (hf : w.frozen? a = false) (k : FloatKind) (r s : Nat) (m : Mode) : (store a (.complex k r s) m).run P w = .ok () (w.setCell a (.complex k r s)) := by
  rw [run_store P w a _ m rfl, h]; simp [hf]
/-- what is known of two rows of parts -/
def CSet (n : Nat) (xs ys : List Nat) (X Y : Nat → Nat) : Prop := ∀ j, j < n → Is .f32 (xs.getD j 0) (X j) ∧ Is .f32 (ys.getD j 0) (Y j)
theorem cnar (m : Nat) (h : m < 300) (w : World) : (convert 45 24 (.complex .f64 (floatOfInt .f64 (m : Int)) 4607182418800017408)).run Tryz.prog w = .ok (.complex .f32 (cm m) 1065353216) w :=
  run_c2n w 45 24 46 28 Tryz.underlying45 Tryz.underlying24 Tryz.underlying46 Tryz.underlying28 (cm_ok h).1 one_ok
theorem val_i64C {a b : Int} (h : a = b) : Value.int .i64 a = .int .i64 b := by rw [h]
def CMkRet (lo hi : Nat) (ao : Option Addr) (n k : Nat) (w : World) (e : Ending) (w' : World) : Prop :=
  e = .returned (.int .i64 ((k + n : Nat) : Int)) ∧ VORow lo hi w' ao n (cmarks k) ∧ Only ao w w'
end Go.Proofs.YtianaalokclklaaGreatDoor
end
