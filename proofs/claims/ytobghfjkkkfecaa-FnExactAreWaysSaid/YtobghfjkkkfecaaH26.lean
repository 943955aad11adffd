/-
  CONTRACTS: the neighbours of a cell, and where it falls most steeply, the program's.
-/
import Derived.Test.YtobghfjkkkfecaaH25
set_option linter.unusedSimpArgs false
set_option linter.unusedVariables false
namespace Go.Proofs.Ytobghfjkkkfecaa
open Go.RowKit Go.Fl

/-- the neighbours that there are, of the first 'k' directions, each with how far it is away -/
def nbs (a b i : Nat) : Nat → List (Nat × Nat)
  | 0 => []
  | k + 1 => if nearI a b i k < 0 then nbs a b i k else nbs a b i k ++ [((nearI a b i k).toNat, farW k)]
def flat (L : List (Nat × Nat)) : List Value := L.flatMap fun p => [.int .i64 (p.1 : Int), .float .f32 p.2]
theorem flat_snoc (L : List (Nat × Nat)) (m f : Nat) : flat (L ++ [(m, f)]) = flat L ++ [.int .i64 (m : Int), .float .f32 f] := by unfold flat; rw [List.flatMap_append]; rfl
theorem flat_cons (p : Nat × Nat) (L : List (Nat × Nat)) : flat (p :: L) = [.int .i64 (p.1 : Int), .float .f32 p.2] ++ flat L := by unfold flat; rw [List.flatMap_cons]
theorem flat_len (L : List (Nat × Nat)) : (flat L).length = L.length * 2 := by
  induction L with
  | nil => rfl
  | cons p L ih => rw [flat_cons, List.length_append, ih, List.length_cons]; simp only [List.length_cons, List.length_nil]; omega
theorem flat_at (L : List (Nat × Nat)) (j : Nat) (p : Nat × Nat) (h : L[j]? = some p) : (flat L)[j * 2]? = some (.int .i64 (p.1 : Int)) ∧ (flat L)[j * 2 + 1]? = some (.float .f32 p.2) := by
  induction L generalizing j with
  | nil => simp at h
  | cons q L ih =>
    cases j with
    | zero => simp at h; subst h; rw [flat_cons]; exact ⟨rfl, rfl⟩
    | succ j =>
      simp at h
      obtain ⟨h1, h2⟩ := ih j h
      rw [flat_cons, show (j + 1) * 2 = j * 2 + 2 by omega]
      exact ⟨by simpa using h1, by simpa using h2⟩
theorem nbs_len (a b i k : Nat) : (nbs a b i k).length ≤ k := by
  induction k with
  | zero => exact Nat.le_refl _
  | succ k ih =>
    unfold nbs
    split
    · omega
    · rw [List.length_append]; show _ + 1 ≤ _; omega
theorem nbs_cell {a b i k : Nat} {p : Nat × Nat} (h : p ∈ nbs a b i k) : ∃ j, j < k ∧ (p.1 : Int) = nearI a b i j ∧ p.2 = farW j := by
  induction k with
  | zero => cases h
  | succ k ih =>
    unfold nbs at h
    split at h
    · obtain ⟨j, h1, h2⟩ := ih h; exact ⟨j, by omega, h2⟩
    · rename_i hn
      rcases List.mem_append.1 h with h | h
      · obtain ⟨j, h1, h2⟩ := ih h; exact ⟨j, by omega, h2⟩
      · rw [List.mem_singleton] at h; subst h; exact ⟨k, by omega, by show ((nearI a b i k).toNat : Int) = _; omega, rfl⟩
theorem nbs_has {a b i k j : Nat} (hj : j < k) (hn : 0 ≤ nearI a b i j) : ((nearI a b i j).toNat, farW j) ∈ nbs a b i k := by
  induction k with
  | zero => omega
  | succ k ih =>
    unfold nbs
    by_cases e : j = k
    · subst e; rw [if_neg (by omega)]; simp
    · split
      · exact ih (by omega)
      · exact List.mem_append_left _ (ih (by omega))
/-- the fold over the list of neighbours is the fold over the directions -/
theorem fall_nbs (a b : Nat) (xs : List Nat) (i k : Nat) : (nbs a b i k).foldl (fun s p => fallStep xs i s p.1 p.2) (-1, 0) = fallK a b xs i k := by
  induction k with
  | zero => rfl
  | succ k ih =>
    unfold nbs fallK
    split
    · exact ih
    · rw [List.foldl_append, ih]; rfl
/-- after 'k' directions the row is the call's own; 'w' is the world behind the box -/
structure QSt (w : World) (T : TypeId) (a b i k : Nat) (v : Value) (wr : World) : Prop where
  own : wr.ownsRow w.heap.size T 2 v (nbs a b i k).length (flat (nbs a b i k))
  bel : Bel w wr
theorem QSt.to {w wr w1 : World} {T : TypeId} {a b i k : Nat} {v : Value} (h : QSt w T a b i k v wr) (hb : Bel wr w1) : QSt w T a b i k v w1 :=
  ⟨own_belx (bs := none) h.own (BelX.of hb) (by simp), h.bel.trans hb⟩
theorem QSt.same {w wr : World} {T : TypeId} {a b i k : Nat} {v : Value} (h : QSt w T a b i k v wr) (hn : nearI a b i k = -1) : QSt w T a b i (k + 1) v wr := by
  have e : nbs a b i (k + 1) = nbs a b i k := by rw [nbs, if_pos (by omega)]
  exact ⟨by rw [e]; exact h.own, h.bel⟩
theorem QSt.next {w wr w2 : World} {T : TypeId} {a b i k m : Nat} {v v2 : Value} (h : QSt w T a b i k v wr) (hn : nearI a b i k = (m : Int)) (o : Obj)
    (hown : w2.ownsRow w.heap.size T 2 v2 ((nbs a b i k).length + 1) (flat (nbs a b i k) ++ [.int .i64 (m : Int), .float .f32 (farW k)])) (hg : (wr.alloc o).grownBy w2 v.ownBlock) : QSt w T a b i (k + 1) v2 w2 := by
  have h1 := h.to ((Bel.refl wr).alloc o)
  have hrow := own_row h.own
  have hb : Below w.heap.size (wr.alloc o) w2 := (Below.refl _ _).grown hg h1.bel.size hrow
  have e : nbs a b i (k + 1) = nbs a b i k ++ [(m, farW k)] := by rw [nbs, if_neg (by omega), hn]; rfl
  refine ⟨?_, Below.trans h1.bel hb⟩
  rw [e, flat_snoc, List.length_append]
  exact hown
/-- '.slice ao _ _' reads as these neighbours -/
structure NRow (w : World) (ao : Option Addr) (L : List (Nat × Nat)) : Prop where
  at0 : 0 < L.length → ∃ g off, ao = some ⟨g, off, none⟩ ∧ g < w.heap.size ∧ ∀ j, j < L.length → w.cell? ⟨g, off + j * 2, none⟩ = some (.int .i64 ((L.getD j (0, 0)).1 : Int)) ∧ w.cell? ⟨g, off + j * 2 + 1, none⟩ = some (.float .f32 (L.getD j (0, 0)).2)
theorem NRow.bel {w w' : World} {ao : Option Addr} {L : List (Nat × Nat)} (h : NRow w ao L) (hb : Bel w w') : NRow w' ao L := by
  refine ⟨fun h0 => ?_⟩
  obtain ⟨g, off, h1, h2, h3⟩ := h.at0 h0
  exact ⟨g, off, h1, Nat.lt_of_lt_of_le h2 hb.size, fun j hj => ⟨(hb.cell (p := ⟨g, off + j * 2, none⟩) h2).trans (h3 j hj).1, (hb.cell (p := ⟨g, off + j * 2 + 1, none⟩) h2).trans (h3 j hj).2⟩⟩
def NbRet (L : List (Nat × Nat)) (w : World) (e : Ending) (w' : World) : Prop := ∃ ao cap, e = .returned (.slice ao L.length cap) ∧ NRow w' ao L ∧ Bel w w'
theorem QSt.row {w wr : World} {T : TypeId} {a b i k : Nat} {v : Value} (h : QSt w T a b i k v wr) : ∃ ao cap, v = .slice ao (nbs a b i k).length cap ∧ NRow wr ao (nbs a b i k) := by
  rcases h.own.2 with ⟨rfl, h0⟩ | ⟨g, cap, cur, rfl, h2, h3, _⟩
  · exact ⟨none, 0, by rw [h0], ⟨fun hn => absurd hn (by omega)⟩⟩
  · refine ⟨_, cap, rfl, ⟨fun hn => ⟨g, 0, rfl, (Array.getElem?_eq_some_iff.1 h3).1, fun j hj => ?_⟩⟩⟩
    have hL : (nbs a b i k)[j]? = some ((nbs a b i k).getD j (0, 0)) := by rw [List.getD_eq_getElem?_getD, List.getElem?_eq_getElem hj]; rfl
    obtain ⟨h4, h5⟩ := flat_at _ _ _ hL
    rw [Nat.zero_add, World.ownsRow.cellAt h.own (j * 2) (by omega), World.ownsRow.cellAt h.own (j * 2 + 1) (by omega)]
    exact ⟨h4, h5⟩
theorem infoNb : (Try.prog.info? 95).map (fun i => (i.zero, i.size, i.bytes)) = some (some (.agg #[.int .i64 0, .float .f32 0]), 2, 16) := by kernel_rfl
theorem own_made2 {base : Nat} {e : TypeId} (w1 : World) (g : Nat) (hg : w1.heap.size = g) (hb : base ≤ g) : (w1.alloc (.cells #[] e)).ownsRow base e 2 (.slice (some ⟨g, 0, none⟩) 0 0) 0 [] := by
  subst hg; exact World.ownsRow_made w1 #[] 0 hb (by unfold maxLen; omega) rfl
/-- one struct of two cells more, that lies in a block just made -/
theorem wpList_app2 {P : Program} {ops : Array Oper} {rest : List Oper} {o : Oper} {a : Act} {Q : Exit → Act → World → Prop} {w1 : World} {u1 u2 : Value} (hgd : o.guard = none) (s x : Operand) (t : TypeId)
    (ho : o.op = .call { callee := .builtin .append, args := #[s, x], argTypes := #[t, t] }) (base : Nat) (e : TypeId) (i : TypeInfo) (z : Value) (bytes : Nat) (ht : P.underlying t = some (.slice e)) (hi : P.info? e = some i) (hz : i.zero = some z)
    (hsize : i.size = 2) (hby : i.bytes = bytes) (hzs : z.cells.size = 2) (v : Value) (n : Nat) (xs : List Value) (hs : a.eval s = v) (hown : w1.ownsRow base e 2 v n xs) (hx : a.eval x = .slice (some ⟨w1.heap.size, 0, none⟩) 1 1) (hu1 : u1.oneCell' = true) (hu2 : u2.oneCell' = true)
    (hb : (n + 1) * bytes ≤ 140737488355328) (hm : n + 1 ≤ maxLen) (hbase : base ≤ w1.heap.size)
    (h : ∀ v' w', w'.ownsRow base e 2 v' (n + 1) (xs ++ [u1, u2]) → (w1.alloc (.cells #[u1, u2] e)).grownBy w' v.ownBlock → wpList P ops Q rest (a.put o.dst v') w') : wpList P ops Q (o :: rest) a (w1.alloc (.cells #[u1, u2] e)) := by
  refine wpList_append_own _ hgd s x t ho base e i z 2 bytes ht hi hz hsize hby hzs (by omega) v n xs hs (hown.alloc _) ⟨w1.heap.size, 0, none⟩ 1 1 [u1, u2] hx rfl
    (World.news_of_block (cs := #[u1, u2]) (t := e) (fr := (0, 0)) (heap_alloc_new w1 _)) (by simp [hu1, hu2]) hm hb (by simp; omega) ?_
  intro v' w' h1 h2 _
  exact h v' w' h1 h2
set_option maxRecDepth 100000 in
theorem arr_at {k : Nat} (h : k < 8) : ∀ w, (Instr.index 112 (.agg #[.int .i64 0, .int .i64 (-1), .int .i64 1, .int .i64 (-1), .int .i64 1, .int .i64 0, .int .i64 1, .int .i64 1, .int .i64 0, .int .i64 1, .int .i64 (-1), .int .i64 1, .int .i64 (-1), .int .i64 0, .int .i64 (-1), .int .i64 (-1)]) (.int .i64 (k : Int))).run Try.prog w = .ok (.agg #[.int .i64 (dxs k), .int .i64 (dys k)]) w := by
  rcases lt8 h with rfl | rfl | rfl | rfl | rfl | rfl | rfl | rfl <;> exact fun _ => by kernel_rfl
set_option maxRecDepth 100000 in
set_option maxHeartbeats 4000000 in
theorem neighbours_any (w : World) (a b : Nat) (ao : Option Addr) (n c : Nat) (i : Nat) (ha1 : 1 ≤ a) (ha2 : a ≤ 16) (hb1 : 1 ≤ b) (hb2 : b ≤ 16) (hi : i < b * a) :
    Calls Try.prog 87 #[hillV a b ao n c, .int .i64 (i : Int)] w (NbRet (nbs a b i 8) w) := by
  have hX' := Lib.hid (hbox_new w a b (.slice ao n c) 27)
  have hW := Lib.hid ((Bel.refl w).alloc (.cells #[.int .i64 a, .int .i64 b, .slice ao n c] 27))
  have h256 : b * a ≤ 256 := Nat.mul_le_mul hb2 ha2
  obtain ⟨i0, hi0, hz0, hz1, hz2⟩ := info_parts infoNb
  obtain ⟨x, y, kx1, kx2, kx3, ky, hx, hy⟩ := cell_step2 ha1 (show i ≤ 256 by omega)
  have hyb : y < b := by rw [hy]; exact (Nat.div_lt_iff_lt_mul (by omega)).2 hi
  have hxa : x < a := by rw [hx]; exact Nat.mod_lt _ (by omega)
  have hnear := Lib.hid (fun k => show nearI a b i k = if inB ((x : Int) + dxs k) 0 ((a : Int) - 1) && inB ((y : Int) + dys k) 0 ((b : Int) - 1) then ((y : Int) + dys k) * a + ((x : Int) + dxs k) else -1 by rw [hx, hy]; rfl)
  clear hx hy
  have ha0 : ¬ a = 0 := by omega
  go_enter Try.func87, Try.ntmps87
  go_wp2_with fail
  go_loopw [5, 21] (fun v t wr => ∃ k : Nat, k ≤ 8 ∧ t = .int .i64 (k : Int) ∧ Hid (QSt (w.alloc (.cells #[.int .i64 a, .int .i64 b, .slice ao n c] 27)) 95 a b i k v wr)) (fun _ t _ => 8 - (intOf t).toNat)
  case atStart =>
    refine ⟨0, by omega, rfl, Lib.hid ⟨?_, (Bel.refl _).alloc _⟩⟩
    exact own_made2 _ _ (by simp) (by simp)
  case round =>
    obtain ⟨k, hk, rfl, hS⟩ := hrel
    by_cases hlt : k < 8
    · obtain ⟨hd1, hd2⟩ := dxs_in hlt
      obtain ⟨he1, he2⟩ := dys_in hlt
      have hnk := Lib.hid (hnear.out k)
      have hidx := arr_at hlt
      obtain ⟨p, hp⟩ : ∃ p, p = dxs k := ⟨_, rfl⟩
      obtain ⟨q, hq⟩ : ∃ q, q = dys k := ⟨_, rfl⟩
      obtain ⟨u, hu⟩ : ∃ u : Int, u = x + p := ⟨_, rfl⟩
      obtain ⟨v, hv⟩ : ∃ v : Int, v = y + q := ⟨_, rfl⟩
      rw [← hp] at hd1 hd2
      rw [← hq] at he1 he2
      rw [← hp, ← hq] at hidx
      have hp' := Lib.hid hp
      have hq' := Lib.hid hq
      have s1 : IntKind.i64.wrap ((x : Int) + p) = u := by rw [IntWalk.i64_in _ (by omega)]; omega
      have s2 : IntKind.i64.wrap ((y : Int) + q) = v := by rw [IntWalk.i64_in _ (by omega)]; omega
      have hlt' := Lib.hid hlt
      have hu' := Lib.hid hu
      have hv' := Lib.hid hv
      clear hp hq hu hv
      go_wp2_with fail
      have hS1 := Lib.hid (hS.out.to ((Bel.refl wr).alloc (.cells #[.int .i64 p, .int .i64 q] 111)))
      (refine Rk.region_K (Le := Bel) [0, 1, 2, 3, 4, 5, 6, 7, 8, 9, 10, 11, 12, 13, 14, 15] [] Rk.good_bel (by kernel_rfl) (by kernel_rfl) (by kernel_rfl) (by kernel_rfl) ?_; (try simp only [Rk.pick, List.getElem?_cons_succ, List.getElem?_cons_zero, Option.toList_some, List.cons_append, List.nil_append, List.map_cons, List.map_nil]))
      repeat (first | ((with_reducible refine Rk.wpR_move Rk.good_bel (S := ?_) ?_ ?_ ?_ ?_); (first | exact Rk.yes_none | exact Rk.yes_some rfl rfl); rotate_left 2; (simp only [Rk.slotS, List.getD_cons_succ, List.getD_cons_zero]; rfl); rotate_left 1; (first | exact Rk.mon_is1 _ | exact Rk.mon_isF _ _ | assumption); (try simp only [Rk.upd, List.set_cons_succ, List.set_cons_zero])) | ((with_reducible refine Rk.wpR_assign Rk.good_bel (S := ?_) ?_ ?_ ?_ ?_); (first | exact Rk.yes_none | exact Rk.yes_some rfl rfl); rotate_left 2; (simp only [Rk.slotS, List.getD_cons_succ, List.getD_cons_zero]; rfl); rotate_left 1; (first | exact Rk.mon_is1 _ | exact Rk.mon_isF _ _ | assumption); (try simp only [Rk.upd, List.set_cons_succ, List.set_cons_zero])) | ((with_reducible refine Rk.wpR_skip (d := ?_) (c := ?_) ?_ ?_ ?_ ?_); rotate_left 2; rfl; rfl; rfl; (try simp only [Rk.upd, List.set_cons_succ, List.set_cons_zero])) | ((with_reducible refine Rk.wpR_pickT Rk.good_bel (S := ?_) ?_ ?_ ?_ ?_ ?_); (first | exact Rk.yes_none | exact Rk.yes_some rfl rfl); rotate_left 2; rfl; (simp only [Rk.slotS, List.getD_cons_succ, List.getD_cons_zero]; rfl); rotate_left 1; (first | exact Rk.mon_is1 _ | exact Rk.mon_isF _ _ | assumption); (try simp only [Rk.upd, List.set_cons_succ, List.set_cons_zero])) | ((with_reducible refine Rk.wpR_pickF Rk.good_bel (S := ?_) ?_ ?_ ?_ ?_ ?_); (first | exact Rk.yes_none | exact Rk.yes_some rfl rfl); rotate_left 2; rfl; (simp only [Rk.slotS, List.getD_cons_succ, List.getD_cons_zero]; rfl); rotate_left 1; (first | exact Rk.mon_is1 _ | exact Rk.mon_isF _ _ | assumption); (try simp only [Rk.upd, List.set_cons_succ, List.set_cons_zero])) | ((with_reducible refine Rk.wpR_widen Rk.good_bel Try.underlying32 Try.underlying56 (X := ?_) (S := ?_) ?_ ?_ ?_ ?_); rotate_left 2; (first | exact Rk.yes_none | exact Rk.yes_some rfl rfl); (simp only [Rk.slotS, List.getD_cons_succ, List.getD_cons_zero]; rfl); (first | exact Rk.subF_is _ _ | (refine Rk.subF_eq ?_; (first | assumption | ((refine Is.lit ?_); decide +kernel) | (refine Is.ofInt _ _)))); (try simp only [Rk.upd, List.set_cons_succ, List.set_cons_zero])) | ((with_reducible refine Rk.wpR_fadd Rk.good_bel (k := ?_) (X := ?_) (Y := ?_) (S := ?_) (T := ?_) ?_ ?_ ?_ ?_ ?_ ?_); rotate_left 5; (first | exact Rk.yes_none | exact Rk.yes_some rfl rfl); (simp only [Rk.slotS, List.getD_cons_succ, List.getD_cons_zero]; rfl); (simp only [Rk.slotS, List.getD_cons_succ, List.getD_cons_zero]; rfl); (first | exact Rk.subF_is _ _ | (refine Rk.subF_eq ?_; (first | assumption | ((refine Is.lit ?_); decide +kernel) | (refine Is.ofInt _ _)))); (first | exact Rk.subF_is _ _ | (refine Rk.subF_eq ?_; (first | assumption | ((refine Is.lit ?_); decide +kernel) | (refine Is.ofInt _ _)))); (try simp only [Rk.upd, List.set_cons_succ, List.set_cons_zero])) | ((with_reducible refine Rk.wpR_fsub Rk.good_bel (k := ?_) (X := ?_) (Y := ?_) (S := ?_) (T := ?_) ?_ ?_ ?_ ?_ ?_ ?_); rotate_left 5; (first | exact Rk.yes_none | exact Rk.yes_some rfl rfl); (simp only [Rk.slotS, List.getD_cons_succ, List.getD_cons_zero]; rfl); (simp only [Rk.slotS, List.getD_cons_succ, List.getD_cons_zero]; rfl); (first | exact Rk.subF_is _ _ | (refine Rk.subF_eq ?_; (first | assumption | ((refine Is.lit ?_); decide +kernel) | (refine Is.ofInt _ _)))); (first | exact Rk.subF_is _ _ | (refine Rk.subF_eq ?_; (first | assumption | ((refine Is.lit ?_); decide +kernel) | (refine Is.ofInt _ _)))); (try simp only [Rk.upd, List.set_cons_succ, List.set_cons_zero])) | ((with_reducible refine Rk.wpR_fmul Rk.good_bel (k := ?_) (X := ?_) (Y := ?_) (S := ?_) (T := ?_) ?_ ?_ ?_ ?_ ?_ ?_); rotate_left 5; (first | exact Rk.yes_none | exact Rk.yes_some rfl rfl); (simp only [Rk.slotS, List.getD_cons_succ, List.getD_cons_zero]; rfl); (simp only [Rk.slotS, List.getD_cons_succ, List.getD_cons_zero]; rfl); (first | exact Rk.subF_is _ _ | (refine Rk.subF_eq ?_; (first | assumption | ((refine Is.lit ?_); decide +kernel) | (refine Is.ofInt _ _)))); (first | exact Rk.subF_is _ _ | (refine Rk.subF_eq ?_; (first | assumption | ((refine Is.lit ?_); decide +kernel) | (refine Is.ofInt _ _)))); (try simp only [Rk.upd, List.set_cons_succ, List.set_cons_zero])) | ((with_reducible refine Rk.wpR_fquo Rk.good_bel (k := ?_) (X := ?_) (Y := ?_) (S := ?_) (T := ?_) ?_ ?_ ?_ ?_ ?_ ?_); rotate_left 5; (first | exact Rk.yes_none | exact Rk.yes_some rfl rfl); (simp only [Rk.slotS, List.getD_cons_succ, List.getD_cons_zero]; rfl); (simp only [Rk.slotS, List.getD_cons_succ, List.getD_cons_zero]; rfl); (first | exact Rk.subF_is _ _ | (refine Rk.subF_eq ?_; (first | assumption | ((refine Is.lit ?_); decide +kernel) | (refine Is.ofInt _ _)))); (first | exact Rk.subF_is _ _ | (refine Rk.subF_eq ?_; (first | assumption | ((refine Is.lit ?_); decide +kernel) | (refine Is.ofInt _ _)))); (try simp only [Rk.upd, List.set_cons_succ, List.set_cons_zero])) | ((with_reducible refine Rk.wpR_feq Rk.good_bel (k := ?_) (X := ?_) (Y := ?_) (S := ?_) (T := ?_) ?_ ?_ ?_ ?_ ?_ ?_); rotate_left 5; (first | exact Rk.yes_none | exact Rk.yes_some rfl rfl); (simp only [Rk.slotS, List.getD_cons_succ, List.getD_cons_zero]; rfl); (simp only [Rk.slotS, List.getD_cons_succ, List.getD_cons_zero]; rfl); (first | exact Rk.subF_is _ _ | (refine Rk.subF_eq ?_; (first | assumption | ((refine Is.lit ?_); decide +kernel) | (refine Is.ofInt _ _)))); (first | exact Rk.subF_is _ _ | (refine Rk.subF_eq ?_; (first | assumption | ((refine Is.lit ?_); decide +kernel) | (refine Is.ofInt _ _)))); (try simp only [Rk.upd, List.set_cons_succ, List.set_cons_zero])) | ((with_reducible refine Rk.wpR_fne Rk.good_bel (k := ?_) (X := ?_) (Y := ?_) (S := ?_) (T := ?_) ?_ ?_ ?_ ?_ ?_ ?_); rotate_left 5; (first | exact Rk.yes_none | exact Rk.yes_some rfl rfl); (simp only [Rk.slotS, List.getD_cons_succ, List.getD_cons_zero]; rfl); (simp only [Rk.slotS, List.getD_cons_succ, List.getD_cons_zero]; rfl); (first | exact Rk.subF_is _ _ | (refine Rk.subF_eq ?_; (first | assumption | ((refine Is.lit ?_); decide +kernel) | (refine Is.ofInt _ _)))); (first | exact Rk.subF_is _ _ | (refine Rk.subF_eq ?_; (first | assumption | ((refine Is.lit ?_); decide +kernel) | (refine Is.ofInt _ _)))); (try simp only [Rk.upd, List.set_cons_succ, List.set_cons_zero])) | ((with_reducible refine Rk.wpR_flt Rk.good_bel (k := ?_) (X := ?_) (Y := ?_) (S := ?_) (T := ?_) ?_ ?_ ?_ ?_ ?_ ?_); rotate_left 5; (first | exact Rk.yes_none | exact Rk.yes_some rfl rfl); (simp only [Rk.slotS, List.getD_cons_succ, List.getD_cons_zero]; rfl); (simp only [Rk.slotS, List.getD_cons_succ, List.getD_cons_zero]; rfl); (first | exact Rk.subF_is _ _ | (refine Rk.subF_eq ?_; (first | assumption | ((refine Is.lit ?_); decide +kernel) | (refine Is.ofInt _ _)))); (first | exact Rk.subF_is _ _ | (refine Rk.subF_eq ?_; (first | assumption | ((refine Is.lit ?_); decide +kernel) | (refine Is.ofInt _ _)))); (try simp only [Rk.upd, List.set_cons_succ, List.set_cons_zero])) | ((with_reducible refine Rk.wpR_fgt Rk.good_bel (k := ?_) (X := ?_) (Y := ?_) (S := ?_) (T := ?_) ?_ ?_ ?_ ?_ ?_ ?_); rotate_left 5; (first | exact Rk.yes_none | exact Rk.yes_some rfl rfl); (simp only [Rk.slotS, List.getD_cons_succ, List.getD_cons_zero]; rfl); (simp only [Rk.slotS, List.getD_cons_succ, List.getD_cons_zero]; rfl); (first | exact Rk.subF_is _ _ | (refine Rk.subF_eq ?_; (first | assumption | ((refine Is.lit ?_); decide +kernel) | (refine Is.ofInt _ _)))); (first | exact Rk.subF_is _ _ | (refine Rk.subF_eq ?_; (first | assumption | ((refine Is.lit ?_); decide +kernel) | (refine Is.ofInt _ _)))); (try simp only [Rk.upd, List.set_cons_succ, List.set_cons_zero])) | ((with_reducible refine Rk.wpR_fge Rk.good_bel (k := ?_) (X := ?_) (Y := ?_) (S := ?_) (T := ?_) ?_ ?_ ?_ ?_ ?_ ?_); rotate_left 5; (first | exact Rk.yes_none | exact Rk.yes_some rfl rfl); (simp only [Rk.slotS, List.getD_cons_succ, List.getD_cons_zero]; rfl); (simp only [Rk.slotS, List.getD_cons_succ, List.getD_cons_zero]; rfl); (first | exact Rk.subF_is _ _ | (refine Rk.subF_eq ?_; (first | assumption | ((refine Is.lit ?_); decide +kernel) | (refine Is.ofInt _ _)))); (first | exact Rk.subF_is _ _ | (refine Rk.subF_eq ?_; (first | assumption | ((refine Is.lit ?_); decide +kernel) | (refine Is.ofInt _ _)))); (try simp only [Rk.upd, List.set_cons_succ, List.set_cons_zero])) | ((with_reducible refine Rk.wpR_fle Rk.good_bel (k := ?_) (X := ?_) (Y := ?_) (S := ?_) (T := ?_) ?_ ?_ ?_ ?_ ?_ ?_); rotate_left 5; (first | exact Rk.yes_none | exact Rk.yes_some rfl rfl); (simp only [Rk.slotS, List.getD_cons_succ, List.getD_cons_zero]; rfl); (simp only [Rk.slotS, List.getD_cons_succ, List.getD_cons_zero]; rfl); (first | exact Rk.subF_is _ _ | (refine Rk.subF_eq ?_; (first | assumption | ((refine Is.lit ?_); decide +kernel) | (refine Is.ofInt _ _)))); (first | exact Rk.subF_is _ _ | (refine Rk.subF_eq ?_; (first | assumption | ((refine Is.lit ?_); decide +kernel) | (refine Is.ofInt _ _)))); (try simp only [Rk.upd, List.set_cons_succ, List.set_cons_zero])) | ((with_reducible refine Rk.wpR_indexAddr Rk.good_bel (v := ?_) (v' := ?_) (u := ?_) ?_ ?_ ?_ ?_ ?_); rotate_left 3; (first | exact Rk.yes_none | exact Rk.yes_some rfl rfl); (simp only [Rk.slotS, List.getD_cons_succ, List.getD_cons_zero]; rfl); (simp only [Rk.slotS, List.getD_cons_succ, List.getD_cons_zero]; rfl); (intro ρ w' hw hK1 hK2; go_simp; rfl); (try simp only [Rk.upd, List.set_cons_succ, List.set_cons_zero])) | ((with_reducible refine Rk.wpR_binOp Rk.good_bel (v := ?_) (v' := ?_) (u := ?_) ?_ ?_ ?_ ?_ ?_); rotate_left 3; (first | exact Rk.yes_none | exact Rk.yes_some rfl rfl); (simp only [Rk.slotS, List.getD_cons_succ, List.getD_cons_zero]; rfl); (simp only [Rk.slotS, List.getD_cons_succ, List.getD_cons_zero]; rfl); (intro ρ w' hw hK1 hK2; go_simp; rfl); (try simp only [Rk.upd, List.set_cons_succ, List.set_cons_zero])) | ((with_reducible refine Rk.wpR_load Rk.good_bel (v := ?_) (u := ?_) ?_ ?_ ?_ ?_); rotate_left 2; (first | exact Rk.yes_none | exact Rk.yes_some rfl rfl); (simp only [Rk.slotS, List.getD_cons_succ, List.getD_cons_zero]; rfl); (intro ρ w' hw hK1; obtain ⟨_, k0, k1, k2⟩ := HBox.bel hX'.out (hS1.out.bel.trans hw); have kd0 := (hw.cell (p := ⟨wr.heap.size, 0, none⟩) (by simp)).trans (show _ = some (.int .i64 p) by go_simp); have kd1 := (hw.cell (p := ⟨wr.heap.size, 1, none⟩) (by simp)).trans (show _ = some (.int .i64 q) by go_simp); go_simp; rfl); (try simp only [Rk.upd, List.set_cons_succ, List.set_cons_zero])) | ((with_reducible refine Rk.wpR_unOp Rk.good_bel (v := ?_) (u := ?_) ?_ ?_ ?_ ?_); rotate_left 2; (first | exact Rk.yes_none | exact Rk.yes_some rfl rfl); (simp only [Rk.slotS, List.getD_cons_succ, List.getD_cons_zero]; rfl); (intro ρ w' hw hK1; go_simp; rfl); (try simp only [Rk.upd, List.set_cons_succ, List.set_cons_zero])) | ((with_reducible refine Rk.wpR_convert Rk.good_bel (v := ?_) (u := ?_) ?_ ?_ ?_ ?_); rotate_left 2; (first | exact Rk.yes_none | exact Rk.yes_some rfl rfl); (simp only [Rk.slotS, List.getD_cons_succ, List.getD_cons_zero]; rfl); (intro ρ w' hw hK1; go_simp; rfl); (try simp only [Rk.upd, List.set_cons_succ, List.set_cons_zero])) | ((with_reducible refine Rk.wpR_field Rk.good_bel (v := ?_) (u := ?_) ?_ ?_ ?_ ?_); rotate_left 2; (first | exact Rk.yes_none | exact Rk.yes_some rfl rfl); (simp only [Rk.slotS, List.getD_cons_succ, List.getD_cons_zero]; rfl); (intro ρ w' hw hK1; go_simp; rfl); (try simp only [Rk.upd, List.set_cons_succ, List.set_cons_zero])) | ((with_reducible refine Rk.wpR_fieldAddr Rk.good_bel (v := ?_) (u := ?_) ?_ ?_ ?_ ?_); rotate_left 2; (first | exact Rk.yes_none | exact Rk.yes_some rfl rfl); (simp only [Rk.slotS, List.getD_cons_succ, List.getD_cons_zero]; rfl); (intro ρ w' hw hK1; go_simp; rfl); (try simp only [Rk.upd, List.set_cons_succ, List.set_cons_zero])) | ((with_reducible refine Rk.wpR_nilCheck Rk.good_bel (v := ?_) (u := ?_) ?_ ?_ ?_ ?_); rotate_left 2; (first | exact Rk.yes_none | exact Rk.yes_some rfl rfl); (simp only [Rk.slotS, List.getD_cons_succ, List.getD_cons_zero]; rfl); (intro ρ w' hw hK1; go_simp; rfl); (try simp only [Rk.upd, List.set_cons_succ, List.set_cons_zero])) | ((with_reducible refine Rk.wpR_builtin1 Rk.good_bel (v := ?_) (u := ?_) ?_ ?_ ?_ ?_); rotate_left 2; (first | exact Rk.yes_none | exact Rk.yes_some rfl rfl); (simp only [Rk.slotS, List.getD_cons_succ, List.getD_cons_zero]; rfl); (intro ρ w' hw hK1; go_simp; rfl); (try simp only [Rk.upd, List.set_cons_succ, List.set_cons_zero])) | ((with_reducible refine Rk.wpR_extract Rk.good_bel (v := ?_) (u := ?_) ?_ ?_ ?_ ?_); rotate_left 2; (first | exact Rk.yes_none | exact Rk.yes_some rfl rfl); (simp only [Rk.slotS, List.getD_cons_succ, List.getD_cons_zero]; rfl); (intro ρ w' hw hK1; go_simp; rfl); (try simp only [Rk.upd, List.set_cons_succ, List.set_cons_zero])))
      (refine Rk.wpR_end ?_; intro wK hwK; (repeat (first | refine Rk.all2_is1 ?_ | (refine Rk.all2_isF ?_; intro r hr) | (refine Rk.all2_any ?_; intro vK hvK))); refine Rk.all2_nil ?_)
      replace hS := Lib.hid (hS1.out.to hwK)
      clear hwK hS1
      obtain ⟨_, k0, k1, k2⟩ := HBox.bel hX'.out hS.out.bel
      cases h1 : inB u 0 ((a : Int) - 1) with
      | false =>
        have hn := Lib.hid (show nearI a b i k = -1 by rw [hnk.out, ← hp'.out, ← hq'.out, ← hu'.out, h1]; rfl)
        replace h1 := Lib.hid h1
        go_wp2_with (go_at_call 93; refine (within_any _ _ _ _).mono ?_; rintro e w' ⟨rfl, rfl⟩; rw [h1.out])
        refine ⟨⟨k + 1, by omega, by simp, Lib.hid (hS.out.same hn.out)⟩, ?_⟩
        show 8 - (((k : Nat) : Int) + 1).toNat < 8 - ((k : Nat) : Int).toNat
        omega
      | true =>
        have hu12 := inB_iff.1 h1
        cases h2 : inB v 0 ((b : Int) - 1) with
        | false =>
          have hn := Lib.hid (show nearI a b i k = -1 by rw [hnk.out, ← hp'.out, ← hq'.out, ← hu'.out, ← hv'.out, h1, h2]; rfl)
          replace h1 := Lib.hid h1
          replace h2 := Lib.hid h2
          go_wp2_with (go_at_call 93; refine (within_any _ _ _ _).mono ?_; rintro e w' ⟨rfl, rfl⟩; first | rw [h1.out] | rw [h2.out])
          refine ⟨⟨k + 1, by omega, by simp, Lib.hid (hS.out.same hn.out)⟩, ?_⟩
          show 8 - (((k : Nat) : Int) + 1).toNat < 8 - ((k : Nat) : Int).toNat
          omega
        | true =>
          have hv12 := inB_iff.1 h2
          have hn0 : nearI a b i k = v * a + u := by rw [hnk.out, ← hp'.out, ← hq'.out, ← hu'.out, ← hv'.out, h1, h2]; rfl
          obtain ⟨g1, g2, g3, g4⟩ := grid_in hu12.1 hu12.2 hv12.1 hv12.2
          have g5 : (b : Int) * a ≤ 256 := by rw [← Int.natCast_mul]; omega
          obtain ⟨m, hm⟩ := Int.eq_ofNat_of_zero_le g3
          have hn := Lib.hid (show nearI a b i k = (m : Int) from hn0.trans hm)
          have hL := nbs_len a b i k
          clear hn0
          replace h1 := Lib.hid h1
          replace h2 := Lib.hid h2
          by_cases hodd : k % 2 = 1
          · have hf := Lib.hid (show farW k = 1068827891 by unfold farW; rw [if_pos hodd])
            have ho : ((k : Int) % 2 == 1) = true := by simp; omega
            clear hodd
            go_wp2_with (first | (go_at_call 93; refine (within_any _ _ _ _).mono ?_; rintro e w' ⟨rfl, rfl⟩; first | rw [h1.out] | rw [h2.out]) | (at_builtin; refine wpList_app2 rfl _ _ 93 rfl _ 95 i0 _ 16 Try.underlying93 hi0 hz0 hz1 hz2 rfl u5 _ _ rfl hS.out.own rfl rfl rfl (by omega) (by unfold maxLen; omega) hS.out.bel.size ?_; intro v2 w2 hown2 hgrow))
            rw [← hf.out] at hown2
            have hN := Lib.hid (hS.out.next hn.out _ hown2 hgrow)
            clear hown2 hgrow
            go_wp2
            refine ⟨⟨k + 1, by omega, by simp, hN⟩, ?_⟩
            show 8 - (((k : Nat) : Int) + 1).toNat < 8 - ((k : Nat) : Int).toNat
            omega
          · have hf := Lib.hid (show farW k = 1065353216 by unfold farW; rw [if_neg hodd])
            have ho : ((k : Int) % 2 == 1) = false := by simp; omega
            clear hodd
            go_wp2_with (first | (go_at_call 93; refine (within_any _ _ _ _).mono ?_; rintro e w' ⟨rfl, rfl⟩; first | rw [h1.out] | rw [h2.out]) | (at_builtin; refine wpList_app2 rfl _ _ 93 rfl _ 95 i0 _ 16 Try.underlying93 hi0 hz0 hz1 hz2 rfl u5 _ _ rfl hS.out.own rfl rfl rfl (by omega) (by unfold maxLen; omega) hS.out.bel.size ?_; intro v2 w2 hown2 hgrow))
            rw [← hf.out] at hown2
            have hN := Lib.hid (hS.out.next hn.out _ hown2 hgrow)
            clear hown2 hgrow
            go_wp2
            refine ⟨⟨k + 1, by omega, by simp, hN⟩, ?_⟩
            show 8 - (((k : Nat) : Int) + 1).toNat < 8 - ((k : Nat) : Int).toNat
            omega
    · obtain rfl : k = 8 := by omega
      obtain ⟨ao2, cap, rfl, hN⟩ := hS.out.row
      go_wp2
      go_ret
      exact ⟨ao2, cap, rfl, hN, hW.out.trans hS.out.bel⟩
theorem farW_is (k : Nat) : Is .f32 (farW k) (farW k) := by
  unfold farW; split <;> exact Is.lit (by decide +kernel)
theorem fold_take {L : List (Nat × Nat)} {k : Nat} {p : Nat × Nat} (h : L[k]? = some p) (F : Int × Nat → Nat × Nat → Int × Nat) (s : Int × Nat) : (L.take (k + 1)).foldl F s = F ((L.take k).foldl F s) p := by
  rw [List.take_add_one, h, List.foldl_append]; rfl
theorem store_nb (w : World) (T : TypeId) (m : Int) (f : Nat) : (store ⟨w.heap.size, 1, none⟩ (.float .f32 f)).run Try.prog (w.alloc (.cells #[.int .i64 m, .float .f32 0] T)) = .ok () (w.alloc (.cells #[.int .i64 m, .float .f32 f] T)) := by
  rw [run_store_float (v := .float .f32 0) (by go_simp) (by go_simp)]
  rw [World.setCell_alloc_at _ _ _ _ _ rfl]
  rfl
set_option maxRecDepth 100000 in
set_option maxHeartbeats 4000000 in
theorem fall_any (w : World) (a b : Nat) (bo off c : Nat) (xs : List Nat) (i : Nat) (ha1 : 1 ≤ a) (ha2 : a ≤ 16) (hb1 : 1 ≤ b) (hb2 : b ≤ 16) (hi : i < b * a) (hA : FRow w (some ⟨bo, off, none⟩) (b * a) xs) :
    Calls Try.prog 81 #[hillV a b (some ⟨bo, off, none⟩) (b * a) c, .int .i64 (i : Int)] w (FallRet (fallK a b xs i 8) w) := by
  have hA' := Lib.hid (hA.alloc (.cells #[.int .i64 a, .int .i64 b, .slice (some ⟨bo, off, none⟩) (b * a) c] 27))
  have hX' := Lib.hid (hbox_new w a b (.slice (some ⟨bo, off, none⟩) (b * a) c) 27)
  have hW := Lib.hid ((Bel.refl w).alloc (.cells #[.int .i64 a, .int .i64 b, .slice (some ⟨bo, off, none⟩) (b * a) c] 27))
  have h256 : b * a ≤ 256 := Nat.mul_le_mul hb2 ha2
  have hxi := hA.is hi
  have ii : (i : Int) < (b : Int) * (a : Int) := by rw [← Int.natCast_mul]; omega
  obtain ⟨Xi, hXi⟩ : ∃ X, X = xs.getD i 0 := ⟨_, rfl⟩
  rw [← hXi] at hxi
  have hXi' := Lib.hid hXi
  have hfk := Lib.hid (fall_nbs a b xs i 8)
  have hin := Lib.hid (fun p (hp : p ∈ nbs a b i 8) => nbs_cell hp)
  have hlen := nbs_len a b i 8
  clear hA hXi
  go_enter Try.func81, Try.ntmps81
  go_wp2_with fail
  refine (neighbours_any _ a b _ _ c i ha1 ha2 hb1 hb2 hi).mono ?_
  rintro e w1 ⟨ao, cg, rfl, hN, hB⟩
  replace hW := Lib.hid (hW.out.trans hB)
  replace hX' := Lib.hid (hX'.out.bel hB)
  replace hA' := Lib.hid (hA'.out.bel hB)
  have hN' := Lib.hid hN
  clear hB hN
  obtain ⟨L, hL⟩ : ∃ L, L = nbs a b i 8 := ⟨_, rfl⟩
  rw [← hL] at hlen ⊢
  have hfk' := hfk.out
  have hin' := hin.out
  have hN2 := hN'.out
  clear hfk hin hN'
  rw [← hL] at hfk' hin' hN2
  have hfk := Lib.hid hfk'
  have hin := Lib.hid hin'
  have hN := Lib.hid hN2
  clear hfk' hin' hN2 hL
  obtain ⟨n, hn⟩ : ∃ n, n = L.length := ⟨_, rfl⟩
  rw [← hn] at hlen ⊢
  replace hn := Lib.hid hn
  go_wp2_with fail
  go_loopw [6, 7, 15] (fun s m t wr => ∃ k : Nat, k ≤ n ∧ t = .int .i64 (k : Int) ∧ ∃ st : Int × Nat, Hid (st = (L.take k).foldl (fun s p => fallStep xs i s p.1 p.2) (-1, 0)) ∧ s = .int .i64 st.1 ∧ ∃ r, m = .float .f32 r ∧ Hid (Is .f32 r st.2) ∧ Hid (Bel w1 wr)) (fun _ _ t _ => n - (intOf t).toNat)
  case atStart => exact ⟨0, by omega, rfl, (-1, 0), Lib.hid rfl, rfl, 0, rfl, Lib.hid (Is.lit (by decide +kernel)), Lib.hid (by ((repeat (first | exact Bel.refl _ | assumption | (with_reducible refine Bel.drewN ?_ _) | (refine Bel.trans (b := ?_) ?_ ?_; rotate_left 2; assumption))); (first | done | fail)))⟩
  case round =>
    obtain ⟨k, hk, rfl, st, hst, rfl, r, rfl, hr, hbw⟩ := hrel
    by_cases hlt : k < n
    · obtain ⟨g, og, rfl, hg1, hg2⟩ := hN.out.at0 (by have := hn.out; omega)
      have hN2 := hN
      obtain ⟨c1, c2⟩ := hg2 k (by have := hn.out; omega)
      replace c1 := (hbw.out.cell (p := ⟨g, og + k * 2, none⟩) hg1).trans c1
      replace c2 := (hbw.out.cell (p := ⟨g, og + k * 2 + 1, none⟩) hg1).trans c2
      have hLk : L[k]? = some (L.getD k (0, 0)) := by have := hn.out; rw [List.getD_eq_getElem?_getD, List.getElem?_eq_getElem (by omega)]; rfl
      obtain ⟨j, hj, hj1, hj2⟩ := hin.out _ (List.mem_of_getElem? hLk)
      clear hg1 hg2
      obtain ⟨⟨m, f⟩, hmf⟩ : ∃ p, p = L.getD k (0, 0) := ⟨_, rfl⟩
      rw [← hmf] at c1 c2 hLk hj1 hj2
      have hmlt : m < b * a := by have := (near_in (a := a) (b := b) (i := i) (k := j)).2 (by omega); omega
      have hLk' := Lib.hid hLk
      clear hmf hLk hj1 hj
      have c1' : wr.cell? ⟨g, og + k * 2, none⟩ = some (.int .i64 (m : Int)) := c1
      have c2' : wr.cell? ⟨g, og + k * 2 + 1, none⟩ = some (.float .f32 f) := c2
      clear c1 c2
      have hff : Is .f32 f f := by rw [show f = farW j from hj2]; exact farW_is j
      clear hj2
      have hst3 := store_nb wr 95 m f
      have im : (m : Int) < (b : Int) * (a : Int) := by rw [← Int.natCast_mul]; omega
      have hxm := hA'.out.is hmlt
      obtain ⟨Xm, hXm⟩ : ∃ X, X = xs.getD m 0 := ⟨_, rfl⟩
      rw [← hXm] at hxm
      have hXm' := Lib.hid hXm
      clear hXm
      have hfx := Lib.hid (show fallX xs i m f = fop .quo .f32 (fop .sub .f32 (cn .f32 Xi) (cn .f32 Xm)) f by unfold fallX; rw [hXi'.out, hXm'.out])
      have hfold := Lib.hid (fold_take hLk'.out (fun s p => fallStep xs i s p.1 p.2) (-1, 0))
      have hS := hfold.out
      rw [← hst.out] at hS
      replace hS : _ = if fgt .f32 (fallX xs i m f) st.2 then ((m : Int), fallX xs i m f) else st := hS
      rw [hfx.out] at hS
      have hS' := Lib.hid hS
      clear hS hfold
      cases hg : fgt .f32 (fop .quo .f32 (fop .sub .f32 (cn .f32 Xi) (cn .f32 Xm)) f) st.2 with
      | _ =>
        have hS2 := hS'.out
        rw [hg] at hS2
        replace hS2 := Lib.hid hS2
        have hrr := hr.out
        go_wp2_with fail
        clear hst3
        have hbw1 := Lib.hid (hbw.out.trans ((Bel.refl wr).alloc (.cells #[.int .i64 (m : Int), .float .f32 f] 95)))
        (refine Rk.region_K (Le := Bel) [0, 1, 2, 3, 4, 5, 6, 7, 8, 9, 10, 11, 12, 13, 14, 15] [] Rk.good_bel (by kernel_rfl) (by kernel_rfl) (by kernel_rfl) (by kernel_rfl) ?_; (try simp only [Rk.pick, List.getElem?_cons_succ, List.getElem?_cons_zero, Option.toList_some, List.cons_append, List.nil_append, List.map_cons, List.map_nil]))
        repeat (first | ((with_reducible refine Rk.wpR_move Rk.good_bel (S := ?_) ?_ ?_ ?_ ?_); (first | exact Rk.yes_none | exact Rk.yes_some rfl rfl); rotate_left 2; (simp only [Rk.slotS, List.getD_cons_succ, List.getD_cons_zero]; rfl); rotate_left 1; (first | exact Rk.mon_is1 _ | exact Rk.mon_isF _ _ | assumption); (try simp only [Rk.upd, List.set_cons_succ, List.set_cons_zero])) | ((with_reducible refine Rk.wpR_assign Rk.good_bel (S := ?_) ?_ ?_ ?_ ?_); (first | exact Rk.yes_none | exact Rk.yes_some rfl rfl); rotate_left 2; (simp only [Rk.slotS, List.getD_cons_succ, List.getD_cons_zero]; rfl); rotate_left 1; (first | exact Rk.mon_is1 _ | exact Rk.mon_isF _ _ | assumption); (try simp only [Rk.upd, List.set_cons_succ, List.set_cons_zero])) | ((with_reducible refine Rk.wpR_skip (d := ?_) (c := ?_) ?_ ?_ ?_ ?_); rotate_left 2; rfl; rfl; rfl; (try simp only [Rk.upd, List.set_cons_succ, List.set_cons_zero])) | ((with_reducible refine Rk.wpR_pickT Rk.good_bel (S := ?_) ?_ ?_ ?_ ?_ ?_); (first | exact Rk.yes_none | exact Rk.yes_some rfl rfl); rotate_left 2; rfl; (simp only [Rk.slotS, List.getD_cons_succ, List.getD_cons_zero]; rfl); rotate_left 1; (first | exact Rk.mon_is1 _ | exact Rk.mon_isF _ _ | assumption); (try simp only [Rk.upd, List.set_cons_succ, List.set_cons_zero])) | ((with_reducible refine Rk.wpR_pickF Rk.good_bel (S := ?_) ?_ ?_ ?_ ?_ ?_); (first | exact Rk.yes_none | exact Rk.yes_some rfl rfl); rotate_left 2; rfl; (simp only [Rk.slotS, List.getD_cons_succ, List.getD_cons_zero]; rfl); rotate_left 1; (first | exact Rk.mon_is1 _ | exact Rk.mon_isF _ _ | assumption); (try simp only [Rk.upd, List.set_cons_succ, List.set_cons_zero])) | ((with_reducible refine Rk.wpR_widen Rk.good_bel Try.underlying32 Try.underlying56 (X := ?_) (S := ?_) ?_ ?_ ?_ ?_); rotate_left 2; (first | exact Rk.yes_none | exact Rk.yes_some rfl rfl); (simp only [Rk.slotS, List.getD_cons_succ, List.getD_cons_zero]; rfl); (first | exact Rk.subF_is _ _ | (refine Rk.subF_eq ?_; (first | assumption | ((refine Is.lit ?_); decide +kernel) | (refine Is.ofInt _ _)))); (try simp only [Rk.upd, List.set_cons_succ, List.set_cons_zero])) | ((with_reducible refine Rk.wpR_fadd Rk.good_bel (k := ?_) (X := ?_) (Y := ?_) (S := ?_) (T := ?_) ?_ ?_ ?_ ?_ ?_ ?_); rotate_left 5; (first | exact Rk.yes_none | exact Rk.yes_some rfl rfl); (simp only [Rk.slotS, List.getD_cons_succ, List.getD_cons_zero]; rfl); (simp only [Rk.slotS, List.getD_cons_succ, List.getD_cons_zero]; rfl); (first | exact Rk.subF_is _ _ | (refine Rk.subF_eq ?_; (first | assumption | ((refine Is.lit ?_); decide +kernel) | (refine Is.ofInt _ _)))); (first | exact Rk.subF_is _ _ | (refine Rk.subF_eq ?_; (first | assumption | ((refine Is.lit ?_); decide +kernel) | (refine Is.ofInt _ _)))); (try simp only [Rk.upd, List.set_cons_succ, List.set_cons_zero])) | ((with_reducible refine Rk.wpR_fsub Rk.good_bel (k := ?_) (X := ?_) (Y := ?_) (S := ?_) (T := ?_) ?_ ?_ ?_ ?_ ?_ ?_); rotate_left 5; (first | exact Rk.yes_none | exact Rk.yes_some rfl rfl); (simp only [Rk.slotS, List.getD_cons_succ, List.getD_cons_zero]; rfl); (simp only [Rk.slotS, List.getD_cons_succ, List.getD_cons_zero]; rfl); (first | exact Rk.subF_is _ _ | (refine Rk.subF_eq ?_; (first | assumption | ((refine Is.lit ?_); decide +kernel) | (refine Is.ofInt _ _)))); (first | exact Rk.subF_is _ _ | (refine Rk.subF_eq ?_; (first | assumption | ((refine Is.lit ?_); decide +kernel) | (refine Is.ofInt _ _)))); (try simp only [Rk.upd, List.set_cons_succ, List.set_cons_zero])) | ((with_reducible refine Rk.wpR_fmul Rk.good_bel (k := ?_) (X := ?_) (Y := ?_) (S := ?_) (T := ?_) ?_ ?_ ?_ ?_ ?_ ?_); rotate_left 5; (first | exact Rk.yes_none | exact Rk.yes_some rfl rfl); (simp only [Rk.slotS, List.getD_cons_succ, List.getD_cons_zero]; rfl); (simp only [Rk.slotS, List.getD_cons_succ, List.getD_cons_zero]; rfl); (first | exact Rk.subF_is _ _ | (refine Rk.subF_eq ?_; (first | assumption | ((refine Is.lit ?_); decide +kernel) | (refine Is.ofInt _ _)))); (first | exact Rk.subF_is _ _ | (refine Rk.subF_eq ?_; (first | assumption | ((refine Is.lit ?_); decide +kernel) | (refine Is.ofInt _ _)))); (try simp only [Rk.upd, List.set_cons_succ, List.set_cons_zero])) | ((with_reducible refine Rk.wpR_fquo Rk.good_bel (k := ?_) (X := ?_) (Y := ?_) (S := ?_) (T := ?_) ?_ ?_ ?_ ?_ ?_ ?_); rotate_left 5; (first | exact Rk.yes_none | exact Rk.yes_some rfl rfl); (simp only [Rk.slotS, List.getD_cons_succ, List.getD_cons_zero]; rfl); (simp only [Rk.slotS, List.getD_cons_succ, List.getD_cons_zero]; rfl); (first | exact Rk.subF_is _ _ | (refine Rk.subF_eq ?_; (first | assumption | ((refine Is.lit ?_); decide +kernel) | (refine Is.ofInt _ _)))); (first | exact Rk.subF_is _ _ | (refine Rk.subF_eq ?_; (first | assumption | ((refine Is.lit ?_); decide +kernel) | (refine Is.ofInt _ _)))); (try simp only [Rk.upd, List.set_cons_succ, List.set_cons_zero])) | ((with_reducible refine Rk.wpR_feq Rk.good_bel (k := ?_) (X := ?_) (Y := ?_) (S := ?_) (T := ?_) ?_ ?_ ?_ ?_ ?_ ?_); rotate_left 5; (first | exact Rk.yes_none | exact Rk.yes_some rfl rfl); (simp only [Rk.slotS, List.getD_cons_succ, List.getD_cons_zero]; rfl); (simp only [Rk.slotS, List.getD_cons_succ, List.getD_cons_zero]; rfl); (first | exact Rk.subF_is _ _ | (refine Rk.subF_eq ?_; (first | assumption | ((refine Is.lit ?_); decide +kernel) | (refine Is.ofInt _ _)))); (first | exact Rk.subF_is _ _ | (refine Rk.subF_eq ?_; (first | assumption | ((refine Is.lit ?_); decide +kernel) | (refine Is.ofInt _ _)))); (try simp only [Rk.upd, List.set_cons_succ, List.set_cons_zero])) | ((with_reducible refine Rk.wpR_fne Rk.good_bel (k := ?_) (X := ?_) (Y := ?_) (S := ?_) (T := ?_) ?_ ?_ ?_ ?_ ?_ ?_); rotate_left 5; (first | exact Rk.yes_none | exact Rk.yes_some rfl rfl); (simp only [Rk.slotS, List.getD_cons_succ, List.getD_cons_zero]; rfl); (simp only [Rk.slotS, List.getD_cons_succ, List.getD_cons_zero]; rfl); (first | exact Rk.subF_is _ _ | (refine Rk.subF_eq ?_; (first | assumption | ((refine Is.lit ?_); decide +kernel) | (refine Is.ofInt _ _)))); (first | exact Rk.subF_is _ _ | (refine Rk.subF_eq ?_; (first | assumption | ((refine Is.lit ?_); decide +kernel) | (refine Is.ofInt _ _)))); (try simp only [Rk.upd, List.set_cons_succ, List.set_cons_zero])) | ((with_reducible refine Rk.wpR_flt Rk.good_bel (k := ?_) (X := ?_) (Y := ?_) (S := ?_) (T := ?_) ?_ ?_ ?_ ?_ ?_ ?_); rotate_left 5; (first | exact Rk.yes_none | exact Rk.yes_some rfl rfl); (simp only [Rk.slotS, List.getD_cons_succ, List.getD_cons_zero]; rfl); (simp only [Rk.slotS, List.getD_cons_succ, List.getD_cons_zero]; rfl); (first | exact Rk.subF_is _ _ | (refine Rk.subF_eq ?_; (first | assumption | ((refine Is.lit ?_); decide +kernel) | (refine Is.ofInt _ _)))); (first | exact Rk.subF_is _ _ | (refine Rk.subF_eq ?_; (first | assumption | ((refine Is.lit ?_); decide +kernel) | (refine Is.ofInt _ _)))); (try simp only [Rk.upd, List.set_cons_succ, List.set_cons_zero])) | ((with_reducible refine Rk.wpR_fgt Rk.good_bel (k := ?_) (X := ?_) (Y := ?_) (S := ?_) (T := ?_) ?_ ?_ ?_ ?_ ?_ ?_); rotate_left 5; (first | exact Rk.yes_none | exact Rk.yes_some rfl rfl); (simp only [Rk.slotS, List.getD_cons_succ, List.getD_cons_zero]; rfl); (simp only [Rk.slotS, List.getD_cons_succ, List.getD_cons_zero]; rfl); (first | exact Rk.subF_is _ _ | (refine Rk.subF_eq ?_; (first | assumption | ((refine Is.lit ?_); decide +kernel) | (refine Is.ofInt _ _)))); (first | exact Rk.subF_is _ _ | (refine Rk.subF_eq ?_; (first | assumption | ((refine Is.lit ?_); decide +kernel) | (refine Is.ofInt _ _)))); (try simp only [Rk.upd, List.set_cons_succ, List.set_cons_zero])) | ((with_reducible refine Rk.wpR_fge Rk.good_bel (k := ?_) (X := ?_) (Y := ?_) (S := ?_) (T := ?_) ?_ ?_ ?_ ?_ ?_ ?_); rotate_left 5; (first | exact Rk.yes_none | exact Rk.yes_some rfl rfl); (simp only [Rk.slotS, List.getD_cons_succ, List.getD_cons_zero]; rfl); (simp only [Rk.slotS, List.getD_cons_succ, List.getD_cons_zero]; rfl); (first | exact Rk.subF_is _ _ | (refine Rk.subF_eq ?_; (first | assumption | ((refine Is.lit ?_); decide +kernel) | (refine Is.ofInt _ _)))); (first | exact Rk.subF_is _ _ | (refine Rk.subF_eq ?_; (first | assumption | ((refine Is.lit ?_); decide +kernel) | (refine Is.ofInt _ _)))); (try simp only [Rk.upd, List.set_cons_succ, List.set_cons_zero])) | ((with_reducible refine Rk.wpR_fle Rk.good_bel (k := ?_) (X := ?_) (Y := ?_) (S := ?_) (T := ?_) ?_ ?_ ?_ ?_ ?_ ?_); rotate_left 5; (first | exact Rk.yes_none | exact Rk.yes_some rfl rfl); (simp only [Rk.slotS, List.getD_cons_succ, List.getD_cons_zero]; rfl); (simp only [Rk.slotS, List.getD_cons_succ, List.getD_cons_zero]; rfl); (first | exact Rk.subF_is _ _ | (refine Rk.subF_eq ?_; (first | assumption | ((refine Is.lit ?_); decide +kernel) | (refine Is.ofInt _ _)))); (first | exact Rk.subF_is _ _ | (refine Rk.subF_eq ?_; (first | assumption | ((refine Is.lit ?_); decide +kernel) | (refine Is.ofInt _ _)))); (try simp only [Rk.upd, List.set_cons_succ, List.set_cons_zero])) | ((with_reducible refine Rk.wpR_indexAddr Rk.good_bel (v := ?_) (v' := ?_) (u := ?_) ?_ ?_ ?_ ?_ ?_); rotate_left 3; (first | exact Rk.yes_none | exact Rk.yes_some rfl rfl); (simp only [Rk.slotS, List.getD_cons_succ, List.getD_cons_zero]; rfl); (simp only [Rk.slotS, List.getD_cons_succ, List.getD_cons_zero]; rfl); (intro ρ w' hw hK1 hK2; go_simp; rfl); (try simp only [Rk.upd, List.set_cons_succ, List.set_cons_zero])) | ((with_reducible refine Rk.wpR_binOp Rk.good_bel (v := ?_) (v' := ?_) (u := ?_) ?_ ?_ ?_ ?_ ?_); rotate_left 3; (first | exact Rk.yes_none | exact Rk.yes_some rfl rfl); (simp only [Rk.slotS, List.getD_cons_succ, List.getD_cons_zero]; rfl); (simp only [Rk.slotS, List.getD_cons_succ, List.getD_cons_zero]; rfl); (intro ρ w' hw hK1 hK2; go_simp; rfl); (try simp only [Rk.upd, List.set_cons_succ, List.set_cons_zero])) | ((with_reducible refine Rk.wpR_load Rk.good_bel (v := ?_) (u := ?_) ?_ ?_ ?_ ?_); rotate_left 2; (first | exact Rk.yes_none | exact Rk.yes_some rfl rfl); (simp only [Rk.slotS, List.getD_cons_succ, List.getD_cons_zero]; rfl); (intro ρ w' hw hK1; obtain ⟨_, k0, k1, k2⟩ := HBox.bel hX'.out (hbw1.out.trans hw); have kp := frow_cell hA'.out (hbw1.out.trans hw) hi; rw [← hXi'.out] at kp; have kq := frow_cell hA'.out (hbw1.out.trans hw) hmlt; rw [← hXm'.out] at kq; have kd0 := (hw.cell (p := ⟨wr.heap.size, 0, none⟩) (by simp)).trans (show _ = some (.int .i64 (m : Int)) by go_simp); have kd1 := (hw.cell (p := ⟨wr.heap.size, 1, none⟩) (by simp)).trans (show _ = some (.float .f32 f) by go_simp); go_simp; rfl); (try simp only [Rk.upd, List.set_cons_succ, List.set_cons_zero])) | ((with_reducible refine Rk.wpR_unOp Rk.good_bel (v := ?_) (u := ?_) ?_ ?_ ?_ ?_); rotate_left 2; (first | exact Rk.yes_none | exact Rk.yes_some rfl rfl); (simp only [Rk.slotS, List.getD_cons_succ, List.getD_cons_zero]; rfl); (intro ρ w' hw hK1; go_simp; rfl); (try simp only [Rk.upd, List.set_cons_succ, List.set_cons_zero])) | ((with_reducible refine Rk.wpR_convert Rk.good_bel (v := ?_) (u := ?_) ?_ ?_ ?_ ?_); rotate_left 2; (first | exact Rk.yes_none | exact Rk.yes_some rfl rfl); (simp only [Rk.slotS, List.getD_cons_succ, List.getD_cons_zero]; rfl); (intro ρ w' hw hK1; go_simp; rfl); (try simp only [Rk.upd, List.set_cons_succ, List.set_cons_zero])) | ((with_reducible refine Rk.wpR_field Rk.good_bel (v := ?_) (u := ?_) ?_ ?_ ?_ ?_); rotate_left 2; (first | exact Rk.yes_none | exact Rk.yes_some rfl rfl); (simp only [Rk.slotS, List.getD_cons_succ, List.getD_cons_zero]; rfl); (intro ρ w' hw hK1; go_simp; rfl); (try simp only [Rk.upd, List.set_cons_succ, List.set_cons_zero])) | ((with_reducible refine Rk.wpR_fieldAddr Rk.good_bel (v := ?_) (u := ?_) ?_ ?_ ?_ ?_); rotate_left 2; (first | exact Rk.yes_none | exact Rk.yes_some rfl rfl); (simp only [Rk.slotS, List.getD_cons_succ, List.getD_cons_zero]; rfl); (intro ρ w' hw hK1; go_simp; rfl); (try simp only [Rk.upd, List.set_cons_succ, List.set_cons_zero])) | ((with_reducible refine Rk.wpR_nilCheck Rk.good_bel (v := ?_) (u := ?_) ?_ ?_ ?_ ?_); rotate_left 2; (first | exact Rk.yes_none | exact Rk.yes_some rfl rfl); (simp only [Rk.slotS, List.getD_cons_succ, List.getD_cons_zero]; rfl); (intro ρ w' hw hK1; go_simp; rfl); (try simp only [Rk.upd, List.set_cons_succ, List.set_cons_zero])) | ((with_reducible refine Rk.wpR_builtin1 Rk.good_bel (v := ?_) (u := ?_) ?_ ?_ ?_ ?_); rotate_left 2; (first | exact Rk.yes_none | exact Rk.yes_some rfl rfl); (simp only [Rk.slotS, List.getD_cons_succ, List.getD_cons_zero]; rfl); (intro ρ w' hw hK1; go_simp; rfl); (try simp only [Rk.upd, List.set_cons_succ, List.set_cons_zero])) | ((with_reducible refine Rk.wpR_extract Rk.good_bel (v := ?_) (u := ?_) ?_ ?_ ?_ ?_); rotate_left 2; (first | exact Rk.yes_none | exact Rk.yes_some rfl rfl); (simp only [Rk.slotS, List.getD_cons_succ, List.getD_cons_zero]; rfl); (intro ρ w' hw hK1; go_simp; rfl); (try simp only [Rk.upd, List.set_cons_succ, List.set_cons_zero])))
        (refine Rk.wpR_end ?_; intro wK hwK; (repeat (first | refine Rk.all2_is1 ?_ | (refine Rk.all2_isF ?_; intro r hr) | (refine Rk.all2_any ?_; intro vK hvK))); refine Rk.all2_nil ?_)
        have hd0 := (hwK.cell (p := ⟨wr.heap.size, 0, none⟩) (by simp)).trans (show _ = some (.int .i64 (m : Int)) by go_simp)
        have hbw2 := Lib.hid (hbw1.out.trans hwK)
        clear hwK hbw1
        go_wp2_with (((with_reducible refine wpList_here ?_); (first | ((with_reducible refine wpList_feq (k := ?_) (bx := ?_) (by' := ?_) (X := ?_) (Y := ?_) ?_ ?_ ?_ ?_ ?_ ?_); rotate_left 5; (first | (with_reducible exact wanted_none) | ((with_reducible refine wanted_some ?_); rfl)); (rfl); (rfl); (first | assumption | ((refine Is.lit ?_); decide +kernel) | (refine Is.ofInt _ _)); (first | assumption | ((refine Is.lit ?_); decide +kernel) | (refine Is.ofInt _ _)); (try simp only [Act.put, List.setIfInBounds_toArray, List.set_cons_succ, List.set_cons_zero, World.drewN_drewN])) | ((with_reducible refine wpList_fne (k := ?_) (bx := ?_) (by' := ?_) (X := ?_) (Y := ?_) ?_ ?_ ?_ ?_ ?_ ?_); rotate_left 5; (first | (with_reducible exact wanted_none) | ((with_reducible refine wanted_some ?_); rfl)); (rfl); (rfl); (first | assumption | ((refine Is.lit ?_); decide +kernel) | (refine Is.ofInt _ _)); (first | assumption | ((refine Is.lit ?_); decide +kernel) | (refine Is.ofInt _ _)); (try simp only [Act.put, List.setIfInBounds_toArray, List.set_cons_succ, List.set_cons_zero, World.drewN_drewN])) | ((with_reducible refine wpList_flt (k := ?_) (bx := ?_) (by' := ?_) (X := ?_) (Y := ?_) ?_ ?_ ?_ ?_ ?_ ?_); rotate_left 5; (first | (with_reducible exact wanted_none) | ((with_reducible refine wanted_some ?_); rfl)); (rfl); (rfl); (first | assumption | ((refine Is.lit ?_); decide +kernel) | (refine Is.ofInt _ _)); (first | assumption | ((refine Is.lit ?_); decide +kernel) | (refine Is.ofInt _ _)); (try simp only [Act.put, List.setIfInBounds_toArray, List.set_cons_succ, List.set_cons_zero, World.drewN_drewN])) | ((with_reducible refine wpList_fle (k := ?_) (bx := ?_) (by' := ?_) (X := ?_) (Y := ?_) ?_ ?_ ?_ ?_ ?_ ?_); rotate_left 5; (first | (with_reducible exact wanted_none) | ((with_reducible refine wanted_some ?_); rfl)); (rfl); (rfl); (first | assumption | ((refine Is.lit ?_); decide +kernel) | (refine Is.ofInt _ _)); (first | assumption | ((refine Is.lit ?_); decide +kernel) | (refine Is.ofInt _ _)); (try simp only [Act.put, List.setIfInBounds_toArray, List.set_cons_succ, List.set_cons_zero, World.drewN_drewN])) | ((with_reducible refine wpList_fgt (k := ?_) (bx := ?_) (by' := ?_) (X := ?_) (Y := ?_) ?_ ?_ ?_ ?_ ?_ ?_); rotate_left 5; (first | (with_reducible exact wanted_none) | ((with_reducible refine wanted_some ?_); rfl)); (rfl); (rfl); (first | assumption | ((refine Is.lit ?_); decide +kernel) | (refine Is.ofInt _ _)); (first | assumption | ((refine Is.lit ?_); decide +kernel) | (refine Is.ofInt _ _)); (try simp only [Act.put, List.setIfInBounds_toArray, List.set_cons_succ, List.set_cons_zero, World.drewN_drewN])) | ((with_reducible refine wpList_fge (k := ?_) (bx := ?_) (by' := ?_) (X := ?_) (Y := ?_) ?_ ?_ ?_ ?_ ?_ ?_); rotate_left 5; (first | (with_reducible exact wanted_none) | ((with_reducible refine wanted_some ?_); rfl)); (rfl); (rfl); (first | assumption | ((refine Is.lit ?_); decide +kernel) | (refine Is.ofInt _ _)); (first | assumption | ((refine Is.lit ?_); decide +kernel) | (refine Is.ofInt _ _)); (try simp only [Act.put, List.setIfInBounds_toArray, List.set_cons_succ, List.set_cons_zero, World.drewN_drewN])) | ((with_reducible refine wpList_fadd (k := ?_) (bx := ?_) (by' := ?_) (X := ?_) (Y := ?_) ?_ ?_ ?_ ?_ ?_ ?_); rotate_left 5; (first | (with_reducible exact wanted_none) | ((with_reducible refine wanted_some ?_); rfl)); (rfl); (rfl); (first | assumption | ((refine Is.lit ?_); decide +kernel) | (refine Is.ofInt _ _)); (first | assumption | ((refine Is.lit ?_); decide +kernel) | (refine Is.ofInt _ _)); (intro r nd hr); (try simp only [Act.put, List.setIfInBounds_toArray, List.set_cons_succ, List.set_cons_zero, World.drewN_drewN])) | ((with_reducible refine wpList_fsub (k := ?_) (bx := ?_) (by' := ?_) (X := ?_) (Y := ?_) ?_ ?_ ?_ ?_ ?_ ?_); rotate_left 5; (first | (with_reducible exact wanted_none) | ((with_reducible refine wanted_some ?_); rfl)); (rfl); (rfl); (first | assumption | ((refine Is.lit ?_); decide +kernel) | (refine Is.ofInt _ _)); (first | assumption | ((refine Is.lit ?_); decide +kernel) | (refine Is.ofInt _ _)); (intro r nd hr); (try simp only [Act.put, List.setIfInBounds_toArray, List.set_cons_succ, List.set_cons_zero, World.drewN_drewN])) | ((with_reducible refine wpList_fmul (k := ?_) (bx := ?_) (by' := ?_) (X := ?_) (Y := ?_) ?_ ?_ ?_ ?_ ?_ ?_); rotate_left 5; (first | (with_reducible exact wanted_none) | ((with_reducible refine wanted_some ?_); rfl)); (rfl); (rfl); (first | assumption | ((refine Is.lit ?_); decide +kernel) | (refine Is.ofInt _ _)); (first | assumption | ((refine Is.lit ?_); decide +kernel) | (refine Is.ofInt _ _)); (intro r nd hr); (try simp only [Act.put, List.setIfInBounds_toArray, List.set_cons_succ, List.set_cons_zero, World.drewN_drewN])) | ((with_reducible refine wpList_fquo (k := ?_) (bx := ?_) (by' := ?_) (X := ?_) (Y := ?_) ?_ ?_ ?_ ?_ ?_ ?_); rotate_left 5; (first | (with_reducible exact wanted_none) | ((with_reducible refine wanted_some ?_); rfl)); (rfl); (rfl); (first | assumption | ((refine Is.lit ?_); decide +kernel) | (refine Is.ofInt _ _)); (first | assumption | ((refine Is.lit ?_); decide +kernel) | (refine Is.ofInt _ _)); (intro r nd hr); (try simp only [Act.put, List.setIfInBounds_toArray, List.set_cons_succ, List.set_cons_zero, World.drewN_drewN])))); try simp only [hg])
        refine ⟨⟨k + 1, by omega, by simp, _, Lib.hid hS2.out.symm, rfl, _, rfl, Lib.hid (by assumption), Lib.hid (hbw2.out.trans (by ((repeat (first | exact Bel.refl _ | assumption | (with_reducible refine Bel.drewN ?_ _) | (refine Bel.trans (b := ?_) ?_ ?_; rotate_left 2; assumption))); (first | done | fail))))⟩, ?_⟩
        show n - (((k : Nat) : Int) + 1).toNat < n - ((k : Nat) : Int).toNat
        omega
    · obtain rfl : k = n := by omega
      have hfin := hst.out
      rw [List.take_of_length_le (by have := hn.out; omega), hfk.out] at hfin
      replace hfin := Lib.hid hfin
      go_wp2_with fail
      go_ret2
      exact ⟨r, (by rw [← hfin.out]; rfl), by rw [← hfin.out]; exact hr.out, hW.out.trans hbw.out⟩
end Go.Proofs.Ytobghfjkkkfecaa
