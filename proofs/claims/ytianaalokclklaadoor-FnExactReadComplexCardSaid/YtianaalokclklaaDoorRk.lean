/-
  A REGION THAT DRAWS ITS ORDER AND WHOSE OPERATIONS MAY MAKE MEMORY, WALKED ONCE: what is known of each slot is a set of values that a growing world only widens; the last operations, which stand in one forced order, are walked behind it. (No program here.)
-/
import Derived.Test.YtianaalokclklaaDoorRw
import Derived.Test.YtianaalokclklaaDoorHl
set_option linter.unusedVariables false
set_option linter.unusedSimpArgs false
namespace Go.Rk
open Go Go.Fl

abbrev KSet := World → Value → Prop
abbrev Known := List KSet
def Is1 (v : Value) : KSet := fun _ u => u = v
def IsF (k : FloatKind) (X : Nat) : KSet := fun _ u => ∃ r, u = .float k r ∧ Is k r X

def FitsOn (L : List Tmp) (A : Known) (w : World) (a : Act) : Prop := A.length = a.tmps.size ∧ ∀ (t : Nat), t ∈ L → ∀ (S : KSet) (v : Value), A[t]? = some S → a.tmps[t]? = some v → S w v
def Fits (A : Known) (w : World) (a : Act) : Prop := A.length = a.tmps.size ∧ ∀ (t : Nat) (S : KSet) (v : Value), A[t]? = some S → a.tmps[t]? = some v → S w v
theorem Fits.on {A : Known} {w : World} {a : Act} (h : Fits A w a) (L : List Tmp) : FitsOn L A w a := ⟨h.1, fun t _ => h.2 t⟩

def upd (A : Known) : Option Tmp → KSet → Known
  | none, _ => A
  | some d, V => A.set d V
theorem upd_len (A : Known) (d : Option Tmp) (V : KSet) : (upd A d V).length = A.length := by cases d <;> simp [upd]
theorem upd_comm (A : Known) {x y : Option Tmp} (V U : KSet) (h : ∀ d, x = some d → y ≠ some d) : upd (upd A x V) y U = upd (upd A y U) x V := by
  cases x with
  | none => rfl
  | some d =>
    cases y with
    | none => rfl
    | some e =>
      have hne : d ≠ e := fun he => h d rfl (he ▸ rfl)
      exact List.set_comm _ _ hne
theorem fitsOn_upd {L : List Tmp} {A : Known} {w : World} {a : Act} {d : Option Tmp} {V : KSet} (hd : ∀ t, d = some t → t ∉ L) : FitsOn L (upd A d V) w a ↔ FitsOn L A w a := by
  unfold FitsOn
  rw [upd_len]
  refine and_congr Iff.rfl ?_
  refine forall_congr' fun t => forall_congr' fun ht => ?_
  have e : (upd A d V)[t]? = A[t]? := by
    cases d with
    | none => rfl
    | some d =>
      have hne : d ≠ t := fun h => hd d rfl (h ▸ ht)
      simp only [upd]
      rw [List.getElem?_set, if_neg hne]
  rw [e]

section
variable {P : Program} {ops : Array Oper} {md : Region.Mode} {Le : World → World → Prop}

def Mon (Le : World → World → Prop) (S : KSet) : Prop := ∀ w w' v, Le w w' → S w v → S w' v
def AllMon (Le : World → World → Prop) (A : Known) : Prop := ∀ (t : Nat) (S : KSet), A[t]? = some S → Mon Le S
theorem AllMon.upd {A : Known} (h : AllMon Le A) {V : KSet} (hV : Mon Le V) (d : Option Tmp) : AllMon Le (Rk.upd A d V) := by
  cases d with
  | none => exact h
  | some d =>
    intro t S hS
    simp only [Rk.upd] at hS
    rw [List.getElem?_set] at hS
    split at hS
    · split at hS
      · cases hS; exact hV
      · cases hS
    · exact h t S hS

theorem Fits.put {A : Known} {w w' : World} {a : Act} (hA : AllMon Le A) (h : Fits A w a) (hle : Le w w') {V : KSet} {v : Value} (hv : V w' v) (d : Option Tmp) : Fits (upd A d V) w' (a.put d v) := by
  cases d with
  | none => exact ⟨h.1, fun t S u hS hu => hA t S hS w w' u hle (h.2 t S u hS hu)⟩
  | some d =>
    refine ⟨by simp [upd, Act.put, h.1], fun t S u hS hu => ?_⟩
    simp only [upd, Act.put] at hS hu
    rw [List.getElem?_set] at hS
    rw [Array.getElem?_setIfInBounds] at hu
    by_cases hdt : d = t
    · subst hdt
      simp only [if_true] at hS hu
      split at hS
      · cases hS
        split at hu
        · cases hu; exact hv
        · cases hu
      · cases hS
    · rw [if_neg hdt] at hS hu
      exact hA t S hS w w' u hle (h.2 t S u hS hu)

/-- what an operation has done -/
def Out (P : Program) (Le : World → World → Prop) (w : World) (V : KSet) : Result Next → Prop
  | .ok (.value u) w' => Le w w' ∧ V w' u
  | .ok .skip w' => Le w w' ∧ V w' undef
  | .ok (.enter f args) w' => Calls P f args w' (fun e w'' => ∃ u, e = .returned u ∧ Le w w'' ∧ V w'' u)
  | _ => False

def Gives (P : Program) (ops : Array Oper) (Le : World → World → Prop) (W : World) (o : Oper) (A : Known) (V : KSet) : Prop :=
  ∀ w, Le W w → ∀ a, FitsOn (o.looksAt ops) A w a → (Region.wanted o (yielded ops a.tmps) = true → Out P Le w V ((execOp a.eval o).run P w)) ∧ (Region.wanted o (yielded ops a.tmps) = false → V w undef)

/-- THE WALK IN THE ORDER OF THE TEXT -/
def wpR (P : Program) (ops : Array Oper) (Le : World → World → Prop) (W : World) (Q : Known → Prop) : List Oper → Known → Prop
  | [], A => Q A
  | o :: rest, A => ∃ V, Mon Le V ∧ Gives P ops Le W o A V ∧ wpR P ops Le W Q rest (upd A o.dst V)

def rOp (P : Program) (ops : Array Oper) (Le : World → World → Prop) (W : World) (i : Nat) (K : Known → Prop) (A : Known) : Prop :=
  match ops[i]? with
  | none => K A
  | some o => ∃ V, Mon Le V ∧ Gives P ops Le W o A V ∧ K (upd A o.dst V)

variable {W : World}
theorem rOp_mono {i : Nat} {A : Known} {K K' : Known → Prop} (h : ∀ A, K A → K' A) (hh : rOp P ops Le W i K A) : rOp P ops Le W i K' A := by
  unfold rOp at *
  split
  · exact h _ (by simpa [*] using hh)
  · rename_i o ho
    simp only [ho] at hh
    obtain ⟨V, h0, h1, h2⟩ := hh
    exact ⟨V, h0, h1, h _ h2⟩

def wpAnyR (P : Program) (md : Region.Mode) (ops : Array Oper) (Le : World → World → Prop) (W : World) (L0 : Array Bool) (K : Known → Prop) : Nat → Array Bool → Known → Prop
  | 0, listed, A => listed = L0 ∧ K A
  | fuel + 1, listed, A => (∃ i, i ∈ Region.ready md ops listed) ∧ ∀ i ∈ Region.ready md ops listed, rOp P ops Le W i (wpAnyR P md ops Le W L0 K fuel (listed.setIfInBounds i true)) A

theorem wpOp_of_rOp (ht : ∀ a b c, Le a b → Le b c → Le a c) {i : Nat} {A : Known} {a : Act} {K : Known → Prop} {K' : Act → World → Prop} {Q' : Exit → Act → World → Prop} {w : World} (hW : Le W w) (hA : AllMon Le A) (ha : Fits A w a)
    (h : ∀ A' a' w', Le W w' → AllMon Le A' → Fits A' w' a' → a'.defers = a.defers → K A' → K' a' w') (hr : ∀ w, Le w w) (hh : rOp P ops Le W i K A) : wpOp P ops Q' i K' a w := by
  unfold rOp at hh
  unfold wpOp
  split
  · rename_i ho; simp only [ho] at hh; exact h _ _ _ hW hA ha rfl hh
  · rename_i o ho
    simp only [ho] at hh
    obtain ⟨V, hm, hg, hK⟩ := hh
    obtain ⟨g1, g2⟩ := hg w hW a (ha.on _)
    have pd : ∀ v, (a.put o.dst v).defers = a.defers := fun v => by cases o.dst <;> rfl
    split
    · rename_i hw
      left
      have h3 := g1 hw
      unfold Oper.wp
      generalize (execOp a.eval o).run P w = r at *
      cases r with
      | ok n w' =>
        cases n <;> simp only [Out] at h3 <;> simp only [Oper.upon]
        case value u => exact h _ _ _ (ht _ _ _ hW h3.1) (hA.upd hm _) (ha.put hA h3.1 h3.2 _) (pd _) hK
        case skip => exact h _ _ _ (ht _ _ _ hW h3.1) (hA.upd hm _) (ha.put hA h3.1 h3.2 _) (pd _) hK
        case enter f args => exact h3.mono fun e w'' ⟨u, he, hu, hv⟩ => by subst he; exact h _ _ _ (ht _ _ _ hW hu) (hA.upd hm _) (ha.put hA hu hv _) (pd _) hK
      | halt x w' => simp only [Out] at h3
    · rename_i hw
      exact h _ _ _ hW (hA.upd hm _) (ha.put hA (hr w) (g2 (by simpa using hw)) _) (pd _) hK

theorem wpAny_of_R (hr : ∀ w, Le w w) (ht : ∀ a b c, Le a b → Le b c → Le a c) {L0 : Array Bool} {Q : Known → Prop} {Q' : Exit → Act → World → Prop} (d0 : List Deferred) (tf : Nat)
    (hQ : ∀ A a w, Le W w → Fits A w a → a.defers = d0 → Q A → wpAny P md ops Q' tf L0 a w) :
    ∀ (fuel : Nat) (listed : Array Bool) (A : Known) (a : Act) (w : World), Le W w → AllMon Le A → Fits A w a → a.defers = d0 → wpAnyR P md ops Le W L0 Q fuel listed A → wpAny P md ops Q' (fuel + tf) listed a w
  | 0, _, _, _, _, hw, hA, ha, hd, h => by
    obtain ⟨h1, h2⟩ := h
    subst h1
    rw [Nat.zero_add]
    exact hQ _ _ _ hw ha hd h2
  | fuel + 1, _, _, _, _, hw, hA, ha, hd, h => by
    rw [show fuel + 1 + tf = (fuel + tf) + 1 by omega]
    exact ⟨fun h0 => (by obtain ⟨i, hi⟩ := h.1; rw [h0] at hi; cases hi),
      fun i hi => wpOp_of_rOp ht hw hA ha (fun A' a' w' hw' hA' ha' hd' hh => wpAny_of_R hr ht d0 tf hQ fuel _ A' a' w' hw' hA' ha' (by rw [hd', hd]) hh) hr (h.2 i hi)⟩

theorem Gives.on {o q : Oper} {A : Known} {V U : KSet} (hap : ∀ d, q.dst = some d → d ∉ o.looksAt ops) (h : Gives P ops Le W o A V) : Gives P ops Le W o (upd A q.dst U) V :=
  fun w hw a ha => h w hw a ((fitsOn_upd hap).1 ha)
theorem Gives.back {o q : Oper} {A : Known} {V U : KSet} (hap : ∀ d, q.dst = some d → d ∉ o.looksAt ops) (h : Gives P ops Le W o (upd A q.dst U) V) : Gives P ops Le W o A V :=
  fun w hw a ha => h w hw a ((fitsOn_upd hap).2 ha)

theorem rOp_put {j : Nat} {oi oj : Oper} {V : KSet} (hj : ops[j]? = some oj) (hap : oi.apart ops oj = true) {K : Known → Prop} {A : Known}
    (hy : Gives P ops Le W oi A V) (h : rOp P ops Le W j K (upd A oi.dst V)) :
    rOp P ops Le W j (fun A' => Gives P ops Le W oi A' V ∧ K (upd A' oi.dst V)) A := by
  obtain ⟨h1, h2, h3⟩ := Oper.apart_spec hap
  unfold rOp at h ⊢
  simp only [hj] at h ⊢
  obtain ⟨U, hU, g1, g2⟩ := h
  exact ⟨U, hU, g1.back h1, hy.on h3, by rw [← upd_comm A V U h2]; exact g2⟩

/-- whatever is listed, what it waits for is listed -/
def Closed (md : Region.Mode) (ops : Array Oper) (listed : Array Bool) : Prop := ∀ (k : Nat) (o : Oper), ops[k]? = some o → listed.getD k false = true → ∀ e ∈ o.after, Region.binds md e = true → listed.getD e.on false = true
theorem Closed.put {listed : Array Bool} (h : Closed md ops listed) {j : Nat} (hj : j ∈ Region.ready md ops listed) : Closed md ops (listed.setIfInBounds j true) := by
  obtain ⟨_, oj, hoj, hall⟩ := mem_ready.1 hj
  intro k o hk hl e he hb
  by_cases hkj : j = k
  · subst hkj
    rw [hoj] at hk
    cases hk
    exact getD_set_true (hall e he hb)
  · rw [getD_set_ne false hkj] at hl
    exact getD_set_true (h k o hk hl e he hb)
/-- an operation of the forced ones is not ready while 'i' is not listed, or else the state is none that comes up -/
def Safe (md : Region.Mode) (ops : Array Oper) (L0 : Array Bool) (i : Nat) : Prop :=
  (∀ j ∈ Region.ready md ops L0, j ∉ Region.ready md ops (L0.setIfInBounds i false)) ∨ ∃ k o, ops[k]? = some o ∧ k ≠ i ∧ L0.getD k false = true ∧ ∃ e ∈ o.after, Region.binds md e = true ∧ e.on = i

theorem wpAnyR_first {L0 : Array Bool} {Q : Known → Prop} {i : Nat} {oi : Oper} {V : KSet} (hi : ops[i]? = some oi) (hm : Mon Le V)
    (hsafe : Safe md ops L0 i) :
    ∀ (fuel : Nat) (listed : Array Bool) (A : Known), Closed md ops listed →
      (∀ j oj, ops[j]? = some oj → j ≠ i → listed.getD j true = false → (∀ e ∈ oj.after, Region.binds md e = true → e.on ≠ i) → oi.apart ops oj = true) →
      i ∈ Region.ready md ops listed → Gives P ops Le W oi A V →
      wpAnyR P md ops Le W L0 Q fuel (listed.setIfInBounds i true) (upd A oi.dst V) → wpAnyR P md ops Le W L0 Q (fuel + 1) listed A := by
  intro fuel
  induction fuel with
  | zero =>
    intro listed A hcl _ hr hy H
    refine ⟨⟨i, hr⟩, fun j hj => ?_⟩
    by_cases hji : j = i
    · subst hji; unfold rOp; simp only [hi]; exact ⟨V, hm, hy, H⟩
    · exfalso
      have h1 := ready_mono hj hji
      rw [H.1] at h1
      have e : L0.setIfInBounds i false = listed := by
        rw [← H.1]
        have h0 := (mem_ready.1 hr).1
        have hlt : i < listed.size := by
          rcases Nat.lt_or_ge i listed.size with h' | h'
          · exact h'
          · simp [Array.getElem?_eq_none h'] at h0
        have hv : listed[i] = false := by simpa [hlt] using h0
        refine Array.ext_getElem? fun k => ?_
        rw [Array.getElem?_setIfInBounds, Array.getElem?_setIfInBounds]
        by_cases hk : i = k
        · subst hk; simp [hlt, hv]
        · simp [hk]
      rcases hsafe with hs | ⟨k, o, hk, hki, hkl, x, hx, hxb, hxi⟩
      · exact hs j h1 (by rw [e]; exact hj)
      · have h2 : listed.getD k false = true := by
          rw [← H.1, getD_set_ne false (Ne.symm hki)] at hkl; exact hkl
        have h3 := hcl k o hk h2 x hx hxb
        rw [hxi] at h3
        have h0 := (mem_ready.1 hr).1
        rcases Nat.lt_or_ge i listed.size with h' | h'
        · simp [h'] at h0 h3; rw [h0] at h3; cases h3
        · simp [Array.getElem?_eq_none h'] at h0
  | succ fuel ih =>
    intro listed A hcl hfree hr hy H
    refine ⟨⟨i, hr⟩, fun j hj => ?_⟩
    by_cases hji : j = i
    · subst hji; unfold rOp; simp only [hi]; exact ⟨V, hm, hy, H⟩
    · have h1 := H.2 j (ready_mono hj hji)
      obtain ⟨hjun, oj, hoj, hall⟩ := mem_ready.1 hj
      have hnot : ∀ e ∈ oj.after, Region.binds md e = true → e.on ≠ i := by
        intro e he hb heq
        have h1 := hall e he hb
        have h0 := (mem_ready.1 hr).1
        rw [heq] at h1
        rcases Nat.lt_or_ge i listed.size with h' | h'
        · simp [h'] at h0 h1; rw [h0] at h1; cases h1
        · simp [Array.getElem?_eq_none h'] at h1
      have h2 := rOp_put hoj (hfree j oj hoj hji hjun hnot) hy h1
      have hfree' : ∀ k ok, ops[k]? = some ok → k ≠ i → (listed.setIfInBounds j true).getD k true = false →
          (∀ e ∈ ok.after, Region.binds md e = true → e.on ≠ i) → oi.apart ops ok = true := by
        intro k ok hk hki hun hno
        refine hfree k ok hk hki ?_ hno
        by_cases hjk : j = k
        · subst hjk; exact hjun
        · rw [getD_set_ne true hjk] at hun; exact hun
      refine rOp_mono (fun A' h3 => ih (listed.setIfInBounds j true) A' (hcl.put hj) hfree' (ready_mono hr (Ne.symm hji)) h3.1 ?_) h2
      rw [Array.setIfInBounds_comm _ _ hji]
      exact h3.2

def preB (md : Region.Mode) (ops : Array Oper) : List Nat → Array Bool → Option (Array Bool)
  | [], listed => some listed
  | i :: is, listed => if (Region.ready md ops listed).contains i && Region.free md ops listed i then preB md ops is (listed.setIfInBounds i true) else none
def tailB (md : Region.Mode) (ops : Array Oper) : List Nat → Array Bool → Bool
  | [], listed => (Region.ready md ops listed).isEmpty
  | j :: js, listed => (Region.ready md ops listed == [j]) && tailB md ops js (listed.setIfInBounds j true)
def safeB (md : Region.Mode) (ops : Array Oper) (L0 : Array Bool) (i : Nat) : Bool :=
  ((Region.ready md ops L0).all fun j => !(Region.ready md ops (L0.setIfInBounds i false)).contains j) ||
    ((List.range ops.size).any fun k => k != i && L0.getD k false && match ops[k]? with | some o => o.after.any (fun e => Region.binds md e && e.on == i) | none => false)
theorem safe_of {L0 : Array Bool} {i : Nat} (h : safeB md ops L0 i = true) : Safe md ops L0 i := by
  unfold safeB at h
  rw [Bool.or_eq_true] at h
  rcases h with h | h
  · left
    intro j hj hn
    have := List.all_eq_true.1 h j hj
    simp at this
    exact this hn
  · right
    obtain ⟨k, hk, h2⟩ := List.any_eq_true.1 h
    simp only [Bool.and_eq_true, bne_iff_ne, ne_eq] at h2
    obtain ⟨⟨h3, h4⟩, h5⟩ := h2
    cases ho : ops[k]? with
    | none => rw [ho] at h5; cases h5
    | some o =>
      rw [ho] at h5
      obtain ⟨e, he, hb⟩ := Array.any_eq_true'.1 h5
      simp only [Bool.and_eq_true, beq_iff_eq] at hb
      exact ⟨k, o, ho, h3, h4, e, he, hb.1, hb.2⟩
def planB (md : Region.Mode) (ops : Array Oper) (pre tail : List Nat) : Bool :=
  match preB md ops pre (Array.replicate ops.size false) with
  | none => false
  | some L0 => tailB md ops tail L0 && (pre.all fun i => safeB md ops L0 i) && (pre.length + tail.length == ops.size)

theorem wpAnyR_pre {L0 : Array Bool} {Q : Known → Prop} : ∀ (is : List Nat) (l : List Oper) (listed : Array Bool) (A : Known), is.map (ops[·]?) = l.map some →
    preB md ops is listed = some L0 → (∀ i ∈ is, Safe md ops L0 i) → Closed md ops listed →
    wpR P ops Le W Q l A → wpAnyR P md ops Le W L0 Q is.length listed A
  | [], [], _, _, _, hB, _, _, h => ⟨by simpa [preB] using hB, h⟩
  | [], _ :: _, _, _, hl, _, _, _, _ => by simp at hl
  | _ :: _, [], _, _, hl, _, _, _, _ => by simp at hl
  | i :: is, o :: l, listed, A, hl, hB, hs, hcl, h => by
    simp only [List.map_cons, List.cons.injEq] at hl
    simp only [preB] at hB
    split at hB
    · rename_i hc
      simp only [Bool.and_eq_true] at hc
      obtain ⟨V, hm, hg, hK⟩ := h
      exact wpAnyR_first hl.1 hm (hs i (by simp)) is.length listed A hcl (Region.free_spec hl.1 hc.2) (by simpa using hc.1) hg
        (wpAnyR_pre is l _ _ hl.2 hB (fun k hk => hs k (by simp [hk])) (hcl.put (by simpa using hc.1)) hK)
    · cases hB

theorem wpAny_tail {Q' : Exit → Act → World → Prop} : ∀ (js : List Nat) (l : List Oper) (listed : Array Bool) (a : Act) (w : World), js.map (ops[·]?) = l.map some → tailB md ops js listed = true →
    wpList P ops Q' l a w → wpAny P md ops Q' js.length listed a w
  | [], [], _, _, _, _, hB, h => ⟨by simpa [tailB] using hB, h⟩
  | [], _ :: _, _, _, _, hl, _, _ => by simp at hl
  | _ :: _, [], _, _, _, hl, _, _ => by simp at hl
  | j :: js, o :: l, listed, a, w, hl, hB, h => by
    simp only [List.map_cons, List.cons.injEq] at hl
    simp only [tailB, Bool.and_eq_true, beq_iff_eq] at hB
    refine ⟨fun h0 => (by rw [hB.1] at h0; cases h0), fun i hi => ?_⟩
    rw [hB.1, List.mem_singleton] at hi
    subst hi
    have h' : wpOp P ops Q' i (wpList P ops Q' l) a w := by
      unfold wpOp
      simp only [hl.1]
      exact h
    exact wpOp_mono (fun a' w' hh => wpAny_tail js l _ a' w' hl.2 hB.2 hh) h'

/-- **a region that draws its order, in a world 'w', the slots being 'tmps': the operations 'pre' in whatever order, then 'tail' in theirs** -/
theorem wp_region_K {id : Nat} {Q : Exit → Act → World → Prop} {tmps : List Value} {D : List Deferred} {l : List Oper} (pre tail : List Nat) (hr : ∀ w, Le w w) (ht : ∀ a b c, Le a b → Le b c → Le a c) (hd : ∀ w, Le w (w.drewN 1))
    (hm : P.follows .mixedOrders = true) (hB : planB .any l.toArray pre tail = true) {lp lt : List Oper} (hp : pre.map (l[·]?) = lp.map some) (hq : tail.map (l[·]?) = lt.map some)
    (h : wpR P l.toArray Le W (fun A' => ∀ a' w', Le W w' → Fits A' w' a' → a'.defers = D → wpList P l.toArray Q lt a' w') lp (tmps.map Is1)) :
    (Code.region id l.toArray true).wp P Q ⟨tmps.toArray, D⟩ W := by
  unfold planB at hB
  split at hB
  · cases hB
  rename_i L0 hL
  simp only [Bool.and_eq_true, beq_iff_eq, List.all_eq_true] at hB
  obtain ⟨⟨hT, hS⟩, hN⟩ := hB
  have hfit : Fits (tmps.map Is1) (W.drewN 1) ⟨tmps.toArray, D⟩ := by
    refine ⟨by simp, fun t S v hS hv => ?_⟩
    simp at hS hv
    obtain ⟨u, hu, rfl⟩ := hS
    rw [hu] at hv
    cases hv; rfl
  have hmon : AllMon Le (tmps.map Is1) := by
    intro t S hS
    simp at hS
    obtain ⟨u, _, rfl⟩ := hS
    exact fun _ _ _ _ h => h
  have hp' : pre.map (l.toArray[·]?) = lp.map some := by simpa using hp
  have hq' : tail.map (l.toArray[·]?) = lt.map some := by simpa using hq
  refine wp_region_any hm ?_
  have key : wpAny P .any l.toArray Q (pre.length + tail.length) (Array.replicate l.toArray.size false) ⟨tmps.toArray, D⟩ (W.drewN 1) := by
   refine wpAny_of_R (Le := Le) (W := W) (Q := fun A' => ∀ a' w', Le W w' → Fits A' w' a' → a'.defers = D → wpList P l.toArray Q lt a' w') hr ht D tail.length (fun A a w hw ha hd' hh => wpAny_tail tail lt L0 a w hq' hT (hh a w hw ha hd')) _ _ _ _ _ (hd W) hmon hfit rfl ?_
   exact wpAnyR_pre pre lp _ _ hp' hL (fun i hi => safe_of (hS i hi)) (fun k o _ hl => by exfalso; rcases Nat.lt_or_ge k l.length with h' | h' <;> simp [Array.getElem?_replicate, h'] at hl) h
  rw [hN] at key
  exact key
end
end Go.Rk
