/-
  A REGION THAT DRAWS ITS ORDER AND HOLDS ONE OPERATION (a call) THAT WRITES WHAT WAS THERE: all others leave it ('Le0'); it leads from 'Le0' to 'Le1'. (No program here.)
-/
import Derived.Test.YtobghfjkkkfecaaRs
import Derived.Test.YtobghfjkkkfecaaMd
set_option linter.unusedVariables false
set_option linter.unusedSimpArgs false
namespace Go.Rk
open Go Go.Fl

section
variable {P : Program} {ops : Array Oper} {md : Region.Mode} {Le : World → World → Prop} {G : Nat → Known → KSet → Prop}

def GOk (ops : Array Oper) (G : Nat → Known → KSet → Prop) : Prop := ∀ (i : Nat) (o q : Oper) (A : Known) (V U : KSet), ops[i]? = some o → (∀ d, q.dst = some d → d ∉ o.looksAt ops) → (G i (upd A q.dst U) V ↔ G i A V)
def gOp (ops : Array Oper) (Le : World → World → Prop) (G : Nat → Known → KSet → Prop) (i : Nat) (K : Known → Prop) (A : Known) : Prop :=
  match ops[i]? with
  | none => K A
  | some o => ∃ V, Mon Le V ∧ G i A V ∧ K (upd A o.dst V)
theorem gOp_mono {i : Nat} {A : Known} {K K' : Known → Prop} (h : ∀ A, K A → K' A) (hh : gOp ops Le G i K A) : gOp ops Le G i K' A := by
  unfold gOp at *
  split
  · exact h _ (by simpa [*] using hh)
  · rename_i o ho
    simp only [ho] at hh
    obtain ⟨V, h0, h1, h2⟩ := hh
    exact ⟨V, h0, h1, h _ h2⟩
def wpAnyG (md : Region.Mode) (ops : Array Oper) (Le : World → World → Prop) (G : Nat → Known → KSet → Prop) (L0 : Array Bool) (K : Known → Prop) : Nat → Array Bool → Known → Prop
  | 0, listed, A => listed = L0 ∧ K A
  | fuel + 1, listed, A => (∃ i, i ∈ Region.ready md ops listed) ∧ ∀ i ∈ Region.ready md ops listed, gOp ops Le G i (wpAnyG md ops Le G L0 K fuel (listed.setIfInBounds i true)) A
theorem gOp_put (hG : GOk ops G) {i j : Nat} {oi oj : Oper} {V : KSet} (hi : ops[i]? = some oi) (hj : ops[j]? = some oj) (hap : oi.apart ops oj = true) {K : Known → Prop} {A : Known}
    (hy : G i A V) (h : gOp ops Le G j K (upd A oi.dst V)) : gOp ops Le G j (fun A' => G i A' V ∧ K (upd A' oi.dst V)) A := by
  obtain ⟨h1, h2, h3⟩ := Oper.apart_spec hap
  unfold gOp at h ⊢
  simp only [hj] at h ⊢
  obtain ⟨U, hU, g1, g2⟩ := h
  exact ⟨U, hU, (hG j oj oi A U V hj h1).1 g1, (hG i oi oj A V U hi h3).2 hy, by rw [← upd_comm A V U h2]; exact g2⟩
theorem wpAnyG_first {L0 : Array Bool} {Q : Known → Prop} {i : Nat} {oi : Oper} {V : KSet} (hi : ops[i]? = some oi) (hm : Mon Le V)
    (hsafe : Safe md ops L0 i) (hG : GOk ops G) :
    ∀ (fuel : Nat) (listed : Array Bool) (A : Known), Closed md ops listed →
      (∀ j oj, ops[j]? = some oj → j ≠ i → listed.getD j true = false → (∀ e ∈ oj.after, Region.binds md e = true → e.on ≠ i) → oi.apart ops oj = true) →
      i ∈ Region.ready md ops listed → G i A V →
      wpAnyG md ops Le G L0 Q fuel (listed.setIfInBounds i true) (upd A oi.dst V) → wpAnyG md ops Le G L0 Q (fuel + 1) listed A := by
  intro fuel
  induction fuel with
  | zero =>
    intro listed A hcl _ hr hy H
    refine ⟨⟨i, hr⟩, fun j hj => ?_⟩
    by_cases hji : j = i
    · subst hji; unfold gOp; simp only [hi]; exact ⟨V, hm, hy, H⟩
    · exfalso
      have h1 := ready_mono hj hji
      rw [H.1] at h1
      have e : L0.setIfInBounds i false = listed := by
        rw [← H.1]
        have h0 := (mem_ready.1 hr).1
        have hlt : i < listed.size := by
          rcases Nat.lt_or_ge i listed.size with h' | h'
          · exact h'
          · simp [Array.getElem?_eq_none h'] at h0
        have hv : listed[i] = false := by simpa [hlt] using h0
        refine Array.ext_getElem? fun k => ?_
        rw [Array.getElem?_setIfInBounds, Array.getElem?_setIfInBounds]
        by_cases hk : i = k
        · subst hk; simp [hlt, hv]
        · simp [hk]
      rcases hsafe with hs | ⟨k, o, hk, hki, hkl, x, hx, hxb, hxi⟩
      · exact hs j h1 (by rw [e]; exact hj)
      · have h2 : listed.getD k false = true := by
          rw [← H.1, getD_set_ne false (Ne.symm hki)] at hkl; exact hkl
        have h3 := hcl k o hk h2 x hx hxb
        rw [hxi] at h3
        have h0 := (mem_ready.1 hr).1
        rcases Nat.lt_or_ge i listed.size with h' | h'
        · simp [h'] at h0 h3; rw [h0] at h3; cases h3
        · simp [Array.getElem?_eq_none h'] at h0
  | succ fuel ih =>
    intro listed A hcl hfree hr hy H
    refine ⟨⟨i, hr⟩, fun j hj => ?_⟩
    by_cases hji : j = i
    · subst hji; unfold gOp; simp only [hi]; exact ⟨V, hm, hy, H⟩
    · have h1 := H.2 j (ready_mono hj hji)
      obtain ⟨hjun, oj, hoj, hall⟩ := mem_ready.1 hj
      have hnot : ∀ e ∈ oj.after, Region.binds md e = true → e.on ≠ i := by
        intro e he hb heq
        have h1 := hall e he hb
        have h0 := (mem_ready.1 hr).1
        rw [heq] at h1
        rcases Nat.lt_or_ge i listed.size with h' | h'
        · simp [h'] at h0 h1; rw [h0] at h1; cases h1
        · simp [Array.getElem?_eq_none h'] at h1
      have h2 := gOp_put hG hi hoj (hfree j oj hoj hji hjun hnot) hy h1
      have hfree' : ∀ k ok, ops[k]? = some ok → k ≠ i → (listed.setIfInBounds j true).getD k true = false →
          (∀ e ∈ ok.after, Region.binds md e = true → e.on ≠ i) → oi.apart ops ok = true := by
        intro k ok hk hki hun hno
        refine hfree k ok hk hki ?_ hno
        by_cases hjk : j = k
        · subst hjk; exact hjun
        · rw [getD_set_ne true hjk] at hun; exact hun
      refine gOp_mono (fun A' h3 => ih (listed.setIfInBounds j true) A' (hcl.put hj) hfree' (ready_mono hr (Ne.symm hji)) h3.1 ?_) h2
      rw [Array.setIfInBounds_comm _ _ hji]
      exact h3.2


def wpG (ops : Array Oper) (Le : World → World → Prop) (G : Nat → Known → KSet → Prop) (Q : Known → Prop) : List Nat → Known → Prop
  | [], A => Q A
  | i :: is, A => gOp ops Le G i (wpG ops Le G Q is) A
theorem wpG_mono {Q Q' : Known → Prop} (h : ∀ A, Q A → Q' A) : ∀ (is : List Nat) (A : Known), wpG ops Le G Q is A → wpG ops Le G Q' is A
  | [], A, hh => h A hh
  | _ :: is, _, hh => gOp_mono (fun A' => wpG_mono h is A') hh
theorem wpG_append {Q : Known → Prop} : ∀ (is js : List Nat) (A : Known), wpG ops Le G (wpG ops Le G Q js) is A → wpG ops Le G Q (is ++ js) A
  | [], _, _, h => h
  | _ :: is, js, _, h => gOp_mono (fun A' => wpG_append is js A') h
theorem wpAnyG_pre (hG : GOk ops G) {L0 : Array Bool} {Q : Known → Prop} : ∀ (is : List Nat) (l : List Oper) (listed : Array Bool) (A : Known), is.map (ops[·]?) = l.map some →
    preB md ops is listed = some L0 → (∀ i ∈ is, Safe md ops L0 i) → Closed md ops listed →
    wpG ops Le G Q is A → wpAnyG md ops Le G L0 Q is.length listed A
  | [], [], _, _, _, hB, _, _, h => ⟨by simpa [preB] using hB, h⟩
  | [], _ :: _, _, _, hl, _, _, _, _ => by simp at hl
  | _ :: _, [], _, _, hl, _, _, _, _ => by simp at hl
  | i :: is, o :: l, listed, A, hl, hB, hs, hcl, h => by
    simp only [List.map_cons, List.cons.injEq] at hl
    simp only [preB] at hB
    split at hB
    · rename_i hc
      simp only [Bool.and_eq_true] at hc
      unfold wpG gOp at h
      simp only [hl.1] at h
      obtain ⟨V, hm, hg, hK⟩ := h
      exact wpAnyG_first hl.1 hm (hs i (by simp)) hG is.length listed A hcl (Region.free_spec hl.1 hc.2) (by simpa using hc.1) hg
        (wpAnyG_pre hG is l _ _ hl.2 hB (fun k hk => hs k (by simp [hk])) (hcl.put (by simpa using hc.1)) hK)
    · cases hB

structure Two (Le0 Le1 : World → World → Prop) : Prop where
  r0 : ∀ w, Le0 w w
  t00 : ∀ a b c, Le0 a b → Le0 b c → Le0 a c
  t01 : ∀ a b c, Le0 a b → Le1 b c → Le1 a c
  t10 : ∀ a b c, Le1 a b → Le0 b c → Le1 a c
  sub : ∀ a b, Le0 a b → Le1 a b
  draw : ∀ w n, Le0 w (w.drewN n)

variable {Le0 Le1 : World → World → Prop} {W : World} {c : Nat}
def G2 (P : Program) (ops : Array Oper) (Le0 Le1 : World → World → Prop) (W : World) (c i : Nat) (A : Known) (V : KSet) : Prop :=
  ∀ o, ops[i]? = some o → ∀ w, (if i = c then Le0 W w else Le1 W w) → ∀ a, FitsOn (o.looksAt ops) A w a →
    (Region.wanted o (yielded ops a.tmps) = true → Out P (if i = c then Le1 else Le0) w V ((execOp a.eval o).run P w)) ∧ (Region.wanted o (yielded ops a.tmps) = false → V w undef)
theorem g2_ok : GOk ops (G2 P ops Le0 Le1 W c) := by
  intro i o q A V U hi hap
  constructor
  · intro h o' ho' w hw a ha
    rw [hi] at ho'; cases ho'
    exact h o hi w hw a ((fitsOn_upd hap).2 ha)
  · intro h o' ho' w hw a ha
    rw [hi] at ho'; cases ho'
    exact h o hi w hw a ((fitsOn_upd hap).1 ha)
theorem wpOp_of_g {LeO : World → World → Prop} (hsub : ∀ a b, LeO a b → Le1 a b) (hr : ∀ w, LeO w w) {i : Nat} {A : Known} {a : Act} {K' : Act → World → Prop} {Q' : Exit → Act → World → Prop} {w : World} {o : Oper} (ho : ops[i]? = some o) {V : KSet}
    (hA : AllMon Le1 A) (ha : Fits A w a) (g1 : Region.wanted o (yielded ops a.tmps) = true → Out P LeO w V ((execOp a.eval o).run P w)) (g2 : Region.wanted o (yielded ops a.tmps) = false → V w undef)
    (h : ∀ a' w', LeO w w' → Fits (upd A o.dst V) w' a' → a'.defers = a.defers → K' a' w') : wpOp P ops Q' i K' a w := by
  unfold wpOp
  simp only [ho]
  have pd : ∀ v, (a.put o.dst v).defers = a.defers := fun v => by cases o.dst <;> rfl
  split
  · rename_i hw
    left
    have h3 := g1 hw
    unfold Oper.wp
    generalize (execOp a.eval o).run P w = r at *
    cases r with
    | ok n w' =>
      cases n <;> simp only [Out] at h3 <;> simp only [Oper.upon]
      case value u => exact h _ _ h3.1 (ha.put hA (hsub _ _ h3.1) h3.2 _) (pd _)
      case skip => exact h _ _ h3.1 (ha.put hA (hsub _ _ h3.1) h3.2 _) (pd _)
      case enter f args => exact h3.mono fun e w'' ⟨u, he, hu, hv⟩ => by subst he; exact h _ _ hu (ha.put hA (hsub _ _ hu) hv _) (pd _)
    | halt x w' => simp only [Out] at h3
  · rename_i hw
    exact h _ _ (hr w) (ha.put hA (hsub _ _ (hr w)) (g2 (by simpa using hw)) _) (pd _)
theorem wpAny_of_G (hT : Two Le0 Le1) {L0 : Array Bool} {Q : Known → Prop} {Q' : Exit → Act → World → Prop} (d0 : List Deferred) (tf : Nat)
    (hQ : ∀ A a w, Le1 W w → Fits A w a → a.defers = d0 → Q A → wpAny P md ops Q' tf L0 a w) :
    ∀ (fuel : Nat) (listed : Array Bool) (A : Known) (a : Act) (w : World), (if listed.getD c false = true then Le1 W w else Le0 W w) → AllMon Le1 A → Fits A w a → a.defers = d0 → wpAnyG md ops Le1 (G2 P ops Le0 Le1 W c) L0 Q fuel listed A → wpAny P md ops Q' (fuel + tf) listed a w
  | 0, listed, _, _, _, hw, hA, ha, hd, h => by
    obtain ⟨h1, h2⟩ := h
    subst h1
    rw [Nat.zero_add]
    refine hQ _ _ _ ?_ ha hd h2
    split at hw
    · exact hw
    · exact hT.sub _ _ hw
  | fuel + 1, listed, A, a, w, hw, hA, ha, hd, h => by
    rw [show fuel + 1 + tf = (fuel + tf) + 1 by omega]
    refine ⟨fun h0 => (by obtain ⟨i, hi⟩ := h.1; rw [h0] at hi; cases hi), fun i hi => ?_⟩
    obtain ⟨hun, o, ho, _⟩ := mem_ready.1 hi
    have hk := h.2 i hi
    unfold gOp at hk
    simp only [ho] at hk
    obtain ⟨V, hm, hg, hK⟩ := hk
    have hlt : i < listed.size := by
      rcases Nat.lt_or_ge i listed.size with h' | h'
      · exact h'
      · simp [Array.getElem?_eq_none h'] at hun
    by_cases hic : i = c
    · have h0 : listed.getD c false = false := by subst hic; simp [hlt] at hun ⊢; exact hun
      rw [h0] at hw
      simp at hw
      have hg' := hg o ho w (by rw [if_pos hic]; exact hw) a (ha.on _)
      rw [if_pos hic] at hg'
      refine wpOp_of_g (fun _ _ h => h) (fun w => hT.sub _ _ (hT.r0 w)) ho hA ha hg'.1 hg'.2 fun a' w' hl hf hd' => ?_
      refine wpAny_of_G hT d0 tf hQ fuel _ _ a' w' ?_ (hA.upd hm _) hf (by rw [hd', hd]) hK
      subst hic
      rw [if_pos (by simp [hlt])]
      exact hT.t01 _ _ _ hw hl
    · have hw1 : Le1 W w := by
        split at hw
        · exact hw
        · exact hT.sub _ _ hw
      have hg' := hg o ho w (by rw [if_neg hic]; exact hw1) a (ha.on _)
      rw [if_neg hic] at hg'
      refine wpOp_of_g hT.sub hT.r0 ho hA ha hg'.1 hg'.2 fun a' w' hl hf hd' => ?_
      refine wpAny_of_G hT d0 tf hQ fuel _ _ a' w' ?_ (hA.upd hm _) hf (by rw [hd', hd]) hK
      rw [getD_set_ne false hic]
      split
      · rename_i h1; rw [if_pos h1] at hw; exact hT.t10 _ _ _ hw hl
      · rename_i h1; rw [if_neg h1] at hw; exact hT.t00 _ _ _ hw hl

/-! ### one walk for all worlds -/
def dOk : List (Option Tmp) → Nat → Bool
  | [], _ => true
  | none :: _, _ => false
  | some d :: r, n => decide (d < n) && !r.contains (some d) && dOk r n
theorem wpR_keeps {B : Known} {d : Tmp} : ∀ (lp : List Oper) (A : Known), (lp.map (·.dst)).contains (some d) = false → wpR P ops Le W (· = B) lp A → B[d]? = A[d]?
  | [], A, _, h => by rw [← (show A = B from h)]
  | o :: lp, A, hc, h => by
    obtain ⟨V, _, _, h2⟩ := h
    rw [List.map_cons, List.contains_cons, Bool.or_eq_false_iff] at hc
    rw [wpR_keeps lp _ hc.2 h2]
    cases ho : o.dst with
    | none => rfl
    | some e =>
      have hne : e ≠ d := fun h => by rw [ho, h] at hc; simp at hc
      simp only [upd]
      rw [List.getElem?_set, if_neg hne]
theorem wpG_of_R (hT : Two Le0 Le1) {B : Known} (hM : AllMon Le1 B) {K : Known → Prop} (hK : K B) : ∀ (is : List Nat) (lp : List Oper) (A : Known), is.map (ops[·]?) = lp.map some → dOk (lp.map (·.dst)) A.length = true → (∀ i ∈ is, i ≠ c) →
    (∀ w1, Le1 W w1 → wpR P ops Le0 w1 (· = B) lp A) → wpG ops Le1 (G2 P ops Le0 Le1 W c) K is A
  | [], [], A, _, _, _, h => by
    have := h W (hT.sub _ _ (hT.r0 W))
    rw [show A = B from this]; exact hK
  | [], _ :: _, _, hl, _, _, _ => by simp at hl
  | _ :: _, [], _, hl, _, _, _ => by simp at hl
  | i :: is, o :: lp, A, hl, hd, hne, h => by
    simp only [List.map_cons, List.cons.injEq] at hl
    cases ho : o.dst with
    | none => rw [List.map_cons, ho] at hd; cases hd
    | some d =>
      rw [List.map_cons, ho] at hd
      simp only [dOk, Bool.and_eq_true, decide_eq_true_eq, Bool.not_eq_true'] at hd
      obtain ⟨⟨hd1, hd2⟩, hd3⟩ := hd
      have key : ∀ w1, Le1 W w1 → ∃ V, B[d]? = some V ∧ Gives P ops Le0 w1 o A V ∧ wpR P ops Le0 w1 (· = B) lp (upd A o.dst V) := by
        intro w1 hw1
        obtain ⟨V, _, hg, hr⟩ := h w1 hw1
        refine ⟨V, ?_, hg, hr⟩
        rw [wpR_keeps lp _ hd2 hr, ho]
        simp only [upd]
        rw [List.getElem?_set, if_pos rfl, if_pos hd1]
      obtain ⟨V, hV, _, _⟩ := key W (hT.sub _ _ (hT.r0 W))
      unfold wpG gOp
      simp only [hl.1]
      refine ⟨V, hM d V hV, ?_, ?_⟩
      · intro o' ho' w hw a ha
        rw [hl.1] at ho'; cases ho'
        have hic : i ≠ c := hne i (by simp)
        rw [if_neg hic] at hw ⊢
        obtain ⟨V', hV', hg, _⟩ := key w hw
        rw [hV] at hV'; cases hV'
        exact hg w (hT.r0 w) a ha
      · refine wpG_of_R hT hM hK is lp _ hl.2 (by rw [upd_len]; exact hd3) (fun k hk => hne k (by simp [hk])) ?_
        intro w1 hw1
        obtain ⟨V', hV', _, hr⟩ := key w1 hw1
        rw [hV] at hV'; cases hV'
        exact hr
theorem wpR_len {B : Known} : ∀ (lp : List Oper) (A : Known), wpR P ops Le W (· = B) lp A → B.length = A.length
  | [], A, h => by rw [← (show A = B from h)]
  | o :: lp, A, h => by
    obtain ⟨V, _, _, h2⟩ := h
    rw [wpR_len lp _ h2, upd_len]
/-- **a region that draws its order and holds one operation 'c' that leads from 'Le0' to 'Le1'** -/
theorem region_2 (hT : Two Le0 Le1) {id : Nat} {Q : Exit → Act → World → Prop} {tmps : List Value} {D : List Deferred} {l : List Oper} (pre1 : List Nat) (c : Nat) (pre2 tail : List Nat) (hm : P.follows .mixedOrders = true)
    (hB : planB .any l.toArray (pre1 ++ c :: pre2) tail = true) (hi1 : (pre1.all fun i => decide (i < l.length)) = true) (hi2 : (pre2.all fun i => decide (i < l.length)) = true) (hi3 : (tail.all fun i => decide (i < l.length)) = true)
    (hn1 : (pre1.all fun i => i != c) = true) (hn2 : (pre2.all fun i => i != c) = true) (hd1 : dOk ((pick l pre1).map (·.dst)) tmps.length = true) (hd2 : dOk ((pick l pre2).map (·.dst)) tmps.length = true)
    {B1 B2 : Known} {V : KSet} (oc : Oper) (hoc : l[c]? = some oc)
    (h1 : ∀ w1, Le1 W w1 → wpR P l.toArray Le0 w1 (· = B1) (pick l pre1) (tmps.map Is1)) (hM1 : AllMon Le1 B1) (hV : Mon Le1 V)
    (hc : ∀ w, Le0 W w → ∀ a, FitsOn (oc.looksAt l.toArray) B1 w a → (Region.wanted oc (yielded l.toArray a.tmps) = true → Out P Le1 w V ((execOp a.eval oc).run P w)) ∧ (Region.wanted oc (yielded l.toArray a.tmps) = false → V w undef))
    (h2 : ∀ w1, Le1 W w1 → wpR P l.toArray Le0 w1 (· = B2) (pick l pre2) (upd B1 oc.dst V)) (hM2 : AllMon Le1 B2)
    (h : ∀ a' w', Le1 W w' → Fits B2 w' a' → a'.defers = D → wpList P l.toArray Q (pick l tail) a' w') :
    (Code.region id l.toArray true).wp P Q ⟨tmps.toArray, D⟩ W := by
  unfold planB at hB
  split at hB
  · cases hB
  rename_i L0 hL
  simp only [Bool.and_eq_true, beq_iff_eq, List.all_eq_true] at hB
  obtain ⟨⟨hT', hS⟩, hN⟩ := hB
  have hfit : Fits (tmps.map Is1) (W.drewN 1) ⟨tmps.toArray, D⟩ := by
    refine ⟨by simp, fun t S v hS hv => ?_⟩
    simp at hS hv
    obtain ⟨u, hu, rfl⟩ := hS
    rw [hu] at hv
    cases hv; rfl
  have hmon : AllMon Le1 (tmps.map Is1) := by
    intro t S hS
    simp at hS
    obtain ⟨u, _, rfl⟩ := hS
    exact fun _ _ _ _ h => h
  have hocA : l.toArray[c]? = some oc := by simpa using hoc
  have hlen1 : B1.length = tmps.length := by rw [wpR_len _ _ (h1 W (hT.sub _ _ (hT.r0 W)))]; simp
  have e1 := pick_eq l pre1 hi1
  have e2 := pick_eq l pre2 hi2
  have e3 := pick_eq l tail hi3
  have hmap : (pre1 ++ c :: pre2).map (l.toArray[·]?) = (pick l pre1 ++ oc :: pick l pre2).map some := by
    simp only [List.map_append, List.map_cons, hocA]
    have e1' : pre1.map (l.toArray[·]?) = (pick l pre1).map some := by simpa using e1
    have e2' : pre2.map (l.toArray[·]?) = (pick l pre2).map some := by simpa using e2
    rw [e1', e2']
  have walk : wpG l.toArray Le1 (G2 P l.toArray Le0 Le1 W c) (fun B => B = B2) (pre1 ++ c :: pre2) (tmps.map Is1) := by
    refine wpG_append _ _ _ ?_
    refine wpG_of_R hT hM1 ?_ pre1 (pick l pre1) _ (by simpa using e1) (by simpa using hd1) (fun i hi => by have := List.all_eq_true.1 hn1 i hi; simpa using this) h1
    unfold wpG gOp
    simp only [hocA]
    refine ⟨V, hV, ?_, ?_⟩
    · intro o' ho' w hw a ha
      rw [hocA] at ho'; cases ho'
      rw [if_pos rfl] at hw ⊢
      exact hc w hw a ha
    · refine wpG_of_R (K := fun B => B = B2) hT hM2 rfl pre2 (pick l pre2) _ (by simpa using e2) (by rw [upd_len, hlen1]; exact hd2) (fun i hi => by have := List.all_eq_true.1 hn2 i hi; simpa using this) h2
  refine wp_region_any hm ?_
  have key : wpAny P .any l.toArray Q ((pre1 ++ c :: pre2).length + tail.length) (Array.replicate l.toArray.size false) ⟨tmps.toArray, D⟩ (W.drewN 1) := by
    refine wpAny_of_G (L0 := L0) (c := c) (W := W) (Q := fun B => B = B2) hT D tail.length (fun A a w hw ha hd' hh => ?_) _ _ _ _ _ ?_ hmon hfit rfl ?_
    · subst hh
      exact wpAny_tail tail (pick l tail) L0 a w (by simpa using e3) hT' (h a w hw ha hd')
    · rw [if_neg (by simp [Array.getD, Array.getElem_replicate])]
      exact hT.draw W 1
    · exact wpAnyG_pre g2_ok (pre1 ++ c :: pre2) _ _ _ hmap hL (fun i hi => safe_of (hS i hi)) (fun k o _ hl => by exfalso; rcases Nat.lt_or_ge k l.length with h' | h' <;> simp [Array.getElem?_replicate, h'] at hl) walk
  rw [hN] at key
  exact key
theorem allMon_nil : AllMon Le1 [] := fun t S h => by simp at h
theorem allMon_cons {S : KSet} {A : Known} (hS : Mon Le1 S) (h : AllMon Le1 A) : AllMon Le1 (S :: A) := fun t S' hS' => by
  cases t with
  | zero => simp at hS'; subst hS'; exact hS
  | succ t => simp at hS'; exact h t S' hS'
theorem allMon_is1 {v : Value} {A : Known} (h : AllMon Le1 A) : AllMon Le1 (Is1 v :: A) := allMon_cons (fun _ _ _ _ h => h) h
/-- the end of the region -/
theorem end_2 {A : Known} {Q' : Exit → Act → World → Prop} {D : List Deferred} {lt : List Oper} (h : ∀ w, Le1 W w → ∀ l, All2 w A l → wpList P ops Q' lt ⟨l.toArray, D⟩ w) :
    ∀ a' w', Le1 W w' → Fits A w' a' → a'.defers = D → wpList P ops Q' lt a' w' := by
  intro a' w' hw ha hd
  obtain ⟨tmps, defers⟩ := a'
  cases hd
  have := h w' hw tmps.toList (all2_of _ _ (by simpa using ha.1) fun t S v h1 h2 => ha.2 t S v h1 (by simpa using h2))
  simpa using this
/-- the call of a function value of two numbers that writes -/
theorem callv2_gives {A : Known} {dst : Option Tmp} {ty : TypeId} {pos : String} {after : Array Edge} {x x2 : Operand} {f : FuncId} {cap : Array Value} {ats : Array TypeId} {v v2 : Value} {V : KSet} (hin : ∀ (xs : Array Value) (w' : World), (callFunc f xs).run P w' = .ok (.enter f xs) w') {j : Nat}
    (hf : slotS A (.tmp j) = Is1 (.func (.func f) #[] cap)) (hS : slotS A x = Is1 v) (hS2 : slotS A x2 = Is1 v2)
    (hcall : ∀ w, Le0 W w → Calls P f (#[v, v2] ++ cap) w fun e w'' => ∃ u, e = .returned u ∧ Le1 w w'' ∧ V w'' u) :
    ∀ w, Le0 W w → ∀ a, FitsOn ((⟨dst, .call { callee := .value (.tmp j), args := #[x, x2], argTypes := ats }, ty, pos, after, none⟩ : Oper).looksAt ops) A w a →
      (Region.wanted (⟨dst, .call { callee := .value (.tmp j), args := #[x, x2], argTypes := ats }, ty, pos, after, none⟩ : Oper) (yielded ops a.tmps) = true → Out P Le1 w V ((execOp a.eval ⟨dst, .call { callee := .value (.tmp j), args := #[x, x2], argTypes := ats }, ty, pos, after, none⟩).run P w)) ∧
      (Region.wanted (⟨dst, .call { callee := .value (.tmp j), args := #[x, x2], argTypes := ats }, ty, pos, after, none⟩ : Oper) (yielded ops a.tmps) = false → V w undef) := by
  intro w hw a ha
  refine ⟨fun _ => ?_, fun h => by cases h⟩
  have ef : a.eval (.tmp j) = .func (.func f) #[] cap := by
    have := fits_eval ha (.tmp j) (looks_op (by simp [Op.operands, Call.operands])); rw [hf] at this; exact this
  have e1 : a.eval x = v := by have := fits_eval ha x (looks_op (by simp [Op.operands, Call.operands])); rw [hS] at this; exact this
  have e2 : a.eval x2 = v2 := by have := fits_eval ha x2 (looks_op (by simp [Op.operands, Call.operands])); rw [hS2] at this; exact this
  have e : (execOp a.eval ⟨dst, .call { callee := .value (.tmp j), args := #[x, x2], argTypes := ats }, ty, pos, after, none⟩).run P w = .ok (.enter f (#[v, v2] ++ cap)) w := by
    have h0 := hin (#[v, v2] ++ cap) w
    simp [execOp, resolve, invoke, ef, e1, e2] at h0 ⊢
    exact h0
  rw [e]
  exact hcall w hw
end
/-! ### one block is written -/
section
/-- what was there is as it was but for block 'sb'; that one is as it was, or holds 'N' -/
structure LeX (sb : Nat) (N : Obj) (a b : World) : Prop where
  bel : BelX (some sb) a b
  blk : sb < a.heap.size → b.heap[sb]? = a.heap[sb]? ∨ b.heap[sb]? = some N
theorem two_X (sb : Nat) (N : Obj) : Two Bel (LeX sb N) where
  r0 := Bel.refl
  t00 := fun _ _ _ h k => h.trans k
  t01 := fun a b c h k => ⟨(BelX.of h).trans k.bel, fun hs => by rw [← h.block sb hs]; exact k.blk (Nat.lt_of_lt_of_le hs h.size)⟩
  t10 := fun a b c h k => ⟨h.bel.trans (BelX.of k), fun hs => by rw [k.block sb (Nat.lt_of_lt_of_le hs h.bel.size)]; exact h.blk hs⟩
  sub := fun a b h => ⟨BelX.of h, fun hs => .inl (h.block sb hs)⟩
  draw := fun w n => (Bel.refl w).drewN n
/-- a number, and what the call has written -/
def IsFN (k : FloatKind) (X : Nat) (sb : Nat) (N : Obj) : KSet := fun w u => (∃ r, u = .float k r ∧ Is k r X) ∧ w.heap[sb]? = some N
theorem mon_isFN (k : FloatKind) (X sb : Nat) (N : Obj) : Mon (LeX sb N) (IsFN k X sb N) := fun w w' u h ⟨h1, h2⟩ =>
  ⟨h1, by rcases h.blk (Array.getElem?_eq_some_iff.1 h2).1 with e | e
          · rw [e]; exact h2
          · exact e⟩
def NewL (E : TypeId) (lo : Nat) (k : FloatKind) (X : Nat) : KSet := fun w u => ∃ b r, u = .slice (some ⟨b, 0, none⟩) 1 1 ∧ lo ≤ b ∧ w.heap[b]? = some (.cells #[.float k r] E (0, 0)) ∧ Is k r X
theorem mon_newL (E : TypeId) (lo : Nat) (k : FloatKind) (X sb : Nat) (N : Obj) (hlo : sb < lo) : Mon (LeX sb N) (NewL E lo k X) := fun w w' u h ⟨b, r, h1, h2, h3, h4⟩ =>
  ⟨b, r, h1, h2, by rw [h.bel.block b (Array.getElem?_eq_some_iff.1 h3).1 (fun e => by cases e; omega)]; exact h3, h4⟩
theorem mon_newB (E : TypeId) (lo : Nat) (k : FloatKind) (X : Nat) : Mon Bel (NewL E lo k X) := fun w w' u h ⟨b, r, h1, h2, h3, h4⟩ =>
  ⟨b, r, h1, h2, by rw [h.block b (Array.getElem?_eq_some_iff.1 h3).1]; exact h3, h4⟩
variable {P : Program} {ops : Array Oper} {W : World} {Q : Known → Prop} {rest : List Oper} {A : Known} {dst : Option Tmp} {ty : TypeId} {pos : String} {after : Array Edge} {guard : Option (Nat × Bool)} {x : Operand}
theorem wpR_newL {t : TypeId} {E : TypeId} {lo : Nat} {k : FloatKind} {X : Nat} {S : KSet} (hlo : lo ≤ W.heap.size) (hy : Yes ops A ⟨dst, .buildSlice t 1 #[(0, x)], ty, pos, after, guard⟩) (hS : slotS A x = S) (hsub : ∀ w v, S w v → ∃ r, v = .float k r ∧ Is k r X)
    (hrun : ∀ (ρ : Operand → Value) (w : World) (r : Nat), ρ x = .float k r → (execOp ρ ⟨dst, .buildSlice t 1 #[(0, x)], ty, pos, after, guard⟩).run P w = .ok (.value (.slice (some ⟨w.heap.size, 0, none⟩) 1 1)) (w.alloc (.cells #[.float k r] E (0, 0))))
    (h : wpR P ops Bel W Q rest (upd A dst (NewL E lo k X))) :
    wpR P ops Bel W Q (⟨dst, .buildSlice t 1 #[(0, x)], ty, pos, after, guard⟩ :: rest) A := by
  refine ⟨_, mon_newB E lo k X, gives_run hy fun w hw a ha => ?_, h⟩
  have hv := fits_eval ha x (looks_op (by simp [Op.operands]))
  rw [hS] at hv
  obtain ⟨r, e, hr⟩ := hsub _ _ hv
  exact ⟨_, _, hrun a.eval w r e, (Bel.refl w).alloc _, w.heap.size, r, rfl, Nat.le_trans hlo hw.size, heap_alloc_new w _, hr⟩
end
end Go.Rk
