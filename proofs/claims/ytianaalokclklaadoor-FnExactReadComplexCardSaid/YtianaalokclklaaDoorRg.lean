/-
  A REGION THAT DRAWS ITS ORDER, WALKED ONCE, WITH WHAT IS KNOWN OF EACH SLOT AS A SET OF VALUES: an operation may give any value of a set (a not-a-number whose bits the tape draws). One walk in the order of the text serves every order. (No program here.)
-/
import Derived.Test.YtianaalokclklaaDoorFx
import Derived.Still
set_option linter.unusedVariables false
set_option linter.unusedSimpArgs false
namespace Go.Rg
open Go

/-- what is known of the slots -/
abbrev Known := List (Value → Prop)

def Is1 (v : Value) : Value → Prop := fun u => u = v
def Any : Value → Prop := fun _ => True

/-- the frame is as is known -/
def Fits (A : Known) (a : Act) : Prop := A.length = a.tmps.size ∧ ∀ (t : Nat) (S : Value → Prop) (v : Value), A[t]? = some S → a.tmps[t]? = some v → S v
/-- nothing that is known is empty -/
def Sound (A : Known) : Prop := ∀ (t : Nat) (S : Value → Prop), A[t]? = some S → ∃ v, S v

def upd (A : Known) : Option Tmp → (Value → Prop) → Known
  | none, _ => A
  | some d, V => A.set d V

section
variable {P : Program} {ops : Array Oper} {md : Region.Mode} {C : World → Prop} {D : List Deferred}

/-- what an operation has done -/
def Out (P : Program) (C : World → Prop) (V : Value → Prop) : Result Next → Prop
  | .ok (.value u) w' => C w' ∧ V u
  | .ok .skip w' => C w' ∧ V undef
  | .ok (.enter f args) w' => Calls P f args w' (fun e w'' => ∃ u, e = .returned u ∧ V u ∧ C w'')
  | _ => False

/-- in every frame that is as is known, in every world of the class, the operation gives a value of the set -/
def Gives (P : Program) (ops : Array Oper) (C : World → Prop) (o : Oper) (A : Known) (V : Value → Prop) : Prop :=
  ∀ a, Fits A a → (Region.wanted o (yielded ops a.tmps) = true → ∀ w, C w → Out P C V ((execOp a.eval o).run P w)) ∧ (Region.wanted o (yielded ops a.tmps) = false → V undef)

theorem calls_some {f : FuncId} {args : Array Value} {w : World} {R : Ending → World → Prop} (h : Calls P f args w R) : ∃ e w', R e w' := by
  obtain ⟨e, w', _, hr, _⟩ := h []
  exact ⟨e, w', hr⟩

theorem Gives.hits {o : Oper} {A : Known} {V : Value → Prop} (h : Gives P ops C o A V) {a : Act} (ha : Fits A a) {w : World} (hw : C w) : ∃ v, V v := by
  obtain ⟨h1, h2⟩ := h a ha
  cases hwt : Region.wanted o (yielded ops a.tmps)
  · exact ⟨_, h2 hwt⟩
  · have h3 := h1 hwt w hw
    generalize (execOp a.eval o).run P w = r at h3
    cases r with
    | ok n w' =>
      cases n <;> simp only [Out] at h3
      case value u => exact ⟨u, h3.2⟩
      case skip => exact ⟨_, h3.2⟩
      case enter f args =>
        obtain ⟨e, w'', u, _, hu, _⟩ := calls_some h3
        exact ⟨u, hu⟩
    | halt x w' => simp only [Out] at h3

theorem Fits.put {A : Known} {a : Act} (h : Fits A a) {V : Value → Prop} {v : Value} (hv : V v) (d : Option Tmp) : Fits (upd A d V) (a.put d v) := by
  cases d with
  | none => exact h
  | some d =>
    refine ⟨by simp [upd, Act.put, h.1], fun t S u hS hu => ?_⟩
    simp only [upd, Act.put] at hS hu
    rw [List.getElem?_set] at hS
    rw [Array.getElem?_setIfInBounds] at hu
    by_cases hdt : d = t
    · subst hdt
      simp only [if_true] at hS hu
      split at hS
      · cases hS
        split at hu
        · cases hu; exact hv
        · cases hu
      · cases hS
    · rw [if_neg hdt] at hS hu
      exact h.2 t S u hS hu

theorem Sound.upd {A : Known} (h : Sound A) {V : Value → Prop} (hv : ∃ v, V v) (d : Option Tmp) : Sound (upd A d V) := by
  cases d with
  | none => exact h
  | some d =>
    intro t S hS
    simp only [Rg.upd] at hS
    rw [List.getElem?_set] at hS
    split at hS
    · split at hS
      · cases hS; exact hv
      · cases hS
    · exact h t S hS

theorem upd_comm (A : Known) {x y : Option Tmp} (V U : Value → Prop) (h : ∀ d, x = some d → y ≠ some d) : upd (upd A x V) y U = upd (upd A y U) x V := by
  cases x with
  | none => rfl
  | some d =>
    cases y with
    | none => rfl
    | some e =>
      have hne : d ≠ e := fun he => h d rfl (he ▸ rfl)
      exact List.set_comm _ _ hne

/-- THE WALK IN THE ORDER OF THE TEXT -/
def wpR (P : Program) (ops : Array Oper) (C : World → Prop) (Q : Known → Prop) : List Oper → Known → Prop
  | [], A => Q A
  | o :: rest, A => ∃ V, Gives P ops C o A V ∧ wpR P ops C Q rest (upd A o.dst V)

def rOp (P : Program) (ops : Array Oper) (C : World → Prop) (i : Nat) (K : Known → Prop) (A : Known) : Prop :=
  match ops[i]? with
  | none => K A
  | some o => ∃ V, Gives P ops C o A V ∧ K (upd A o.dst V)

theorem rOp_mono {i : Nat} {A : Known} {K K' : Known → Prop} (h : ∀ A, K A → K' A) (hh : rOp P ops C i K A) : rOp P ops C i K' A := by
  unfold rOp at *
  split
  · exact h _ (by simpa [*] using hh)
  · rename_i o ho
    simp only [ho] at hh
    obtain ⟨V, h1, h2⟩ := hh
    exact ⟨V, h1, h _ h2⟩

def wpAnyR (P : Program) (md : Region.Mode) (ops : Array Oper) (C : World → Prop) (Q : Known → Prop) : Nat → Array Bool → Known → Prop
  | 0, listed, A => Region.ready md ops listed = [] ∧ Q A
  | fuel + 1, listed, A =>
    (Region.ready md ops listed = [] → Q A) ∧ ∀ i ∈ Region.ready md ops listed, rOp P ops C i (wpAnyR P md ops C Q fuel (listed.setIfInBounds i true)) A

theorem wpOp_of_rOp {i : Nat} {A : Known} {a : Act} {K : Known → Prop} {K' : Act → World → Prop} {Q' : Exit → Act → World → Prop} {w : World} (hC : C w) (ha : Fits A a)
    (h : ∀ A' a' w', C w' → Fits A' a' → a'.defers = a.defers → K A' → K' a' w') (hh : rOp P ops C i K A) : wpOp P ops Q' i K' a w := by
  unfold rOp at hh
  unfold wpOp
  split
  · rename_i ho; simp only [ho] at hh; exact h _ _ _ hC ha rfl hh
  · rename_i o ho
    simp only [ho] at hh
    obtain ⟨V, hg, hK⟩ := hh
    obtain ⟨g1, g2⟩ := hg a ha
    have pd : ∀ v, (a.put o.dst v).defers = a.defers := fun v => by cases o.dst <;> rfl
    split
    · rename_i hw
      left
      have h3 := g1 hw w hC
      unfold Oper.wp
      generalize (execOp a.eval o).run P w = r at *
      cases r with
      | ok n w' =>
        cases n <;> simp only [Out] at h3 <;> simp only [Oper.upon]
        case value u => exact h _ _ _ h3.1 (ha.put h3.2 _) (pd _) hK
        case skip => exact h _ _ _ h3.1 (ha.put h3.2 _) (pd _) hK
        case enter f args => exact h3.mono fun e w'' ⟨u, he, hu, hw''⟩ => by subst he; exact h _ _ _ hw'' (ha.put hu _) (pd _) hK
      | halt x w' => simp only [Out] at h3
    · rename_i hw
      exact h _ _ _ hC (ha.put (g2 (by simpa using hw)) _) (pd _) hK

theorem wpAny_of_R {Q : Known → Prop} {Q' : Exit → Act → World → Prop} (d0 : List Deferred) (hQ : ∀ A a w, C w → Fits A a → a.defers = d0 → Q A → Q' .normal a w) :
    ∀ (fuel : Nat) (listed : Array Bool) (A : Known) (a : Act) (w : World), C w → Fits A a → a.defers = d0 → wpAnyR P md ops C Q fuel listed A → wpAny P md ops Q' fuel listed a w
  | 0, _, _, _, _, hw, ha, hd, h => ⟨h.1, hQ _ _ _ hw ha hd h.2⟩
  | fuel + 1, _, _, _, _, hw, ha, hd, h =>
    ⟨fun h0 => hQ _ _ _ hw ha hd (h.1 h0), fun i hi => wpOp_of_rOp hw ha (fun A' a' w' hw' ha' hd' hh => wpAny_of_R d0 hQ fuel _ A' a' w' hw' ha' (by rw [hd', hd]) hh) (h.2 i hi)⟩

/-- one operation's set stands when an operation apart from it comes first -/
theorem Gives.back {o q : Oper} {A : Known} {V U : Value → Prop} (hs : ∀ cs b, o.op ≠ .select cs b) (hap : ∀ d, q.dst = some d → d ∉ o.looksAt ops) (hU : ∃ u, U u)
    (h : Gives P ops C o (upd A q.dst U) V) : Gives P ops C o A V := by
  intro a ha
  obtain ⟨u, hu⟩ := hU
  obtain ⟨h1, h2⟩ := h (a.put q.dst u) (ha.put hu _)
  rw [wanted_put o a q.dst u hap] at h1 h2
  rw [execOp_put o hs a q.dst u hap] at h1
  exact ⟨h1, h2⟩

theorem Gives.on {o q : Oper} {A : Known} {V U : Value → Prop} (hs : ∀ cs b, o.op ≠ .select cs b) (hap : ∀ d, q.dst = some d → d ∉ o.looksAt ops) (hA : Sound A)
    (h : Gives P ops C o A V) : Gives P ops C o (upd A q.dst U) V := by
  intro a ha
  cases hd : q.dst with
  | none => rw [hd] at ha; exact h a ha
  | some d =>
    rw [hd] at ha
    -- put back a value that was known
    have hback : ∃ g, Fits A (a.put (some d) g) := by
      cases hS : A[d]? with
      | none =>
        refine ⟨undef, ?_⟩
        have e1 : A.set d U = A := List.set_eq_of_length_le (by rw [List.getElem?_eq_none_iff] at hS; exact hS)
        simp only [upd, e1] at ha
        refine ⟨by simp [Act.put, ha.1], fun t S v hS' hv => ?_⟩
        simp only [Act.put] at hv
        rw [Array.getElem?_setIfInBounds] at hv
        split at hv
        · rename_i hdt; subst hdt; rw [hS] at hS'; cases hS'
        · exact ha.2 t S v hS' hv
      | some S0 =>
        obtain ⟨g, hg⟩ := hA d S0 hS
        refine ⟨g, ?_⟩
        refine ⟨by have := ha.1; simp [upd] at this; simp [Act.put, this], fun t S v hS' hv => ?_⟩
        simp only [Act.put] at hv
        rw [Array.getElem?_setIfInBounds] at hv
        split at hv
        · rename_i hdt
          subst hdt
          split at hv
          · cases hv; rw [hS] at hS'; cases hS'; exact hg
          · cases hv
        · rename_i hdt
          refine ha.2 t S v ?_ hv
          simp only [upd]
          rw [List.getElem?_set, if_neg hdt]; exact hS'
    obtain ⟨g, hg⟩ := hback
    obtain ⟨h1, h2⟩ := h _ hg
    have hap' : ∀ d', (some d : Option Tmp) = some d' → d' ∉ o.looksAt ops := fun d' hd' => hap d' (by rw [hd]; exact hd')
    rw [wanted_put o a (some d) g hap'] at h1 h2
    rw [execOp_put o hs a (some d) g hap'] at h1
    exact ⟨h1, h2⟩

theorem rOp_put {j : Nat} {oi oj : Oper} {V : Value → Prop} (hj : ops[j]? = some oj) (hap : oi.apart ops oj = true)
    (hsi : ∀ cs b, oi.op ≠ .select cs b) (hsj : ∀ cs b, oj.op ≠ .select cs b) {K : Known → Prop} {A : Known} (hA : Sound A) (hne : ∃ a, Fits A a) (hCne : ∃ w, C w)
    (hy : Gives P ops C oi A V) (h : rOp P ops C j K (upd A oi.dst V)) :
    rOp P ops C j (fun A' => (Sound A' ∧ (∃ a, Fits A' a)) ∧ Gives P ops C oi A' V ∧ K (upd A' oi.dst V)) A := by
  obtain ⟨h1, h2, h3⟩ := Oper.apart_spec hap
  obtain ⟨a0, ha0⟩ := hne
  obtain ⟨w0, hw0⟩ := hCne
  unfold rOp at *
  simp only [hj] at *
  obtain ⟨U, g1, g2⟩ := h
  have gj := g1.back hsj h1 (hy.hits ha0 hw0)
  have hUne := gj.hits ha0 hw0
  obtain ⟨u, hu⟩ := hUne
  exact ⟨U, gj, ⟨hA.upd ⟨u, hu⟩ _, ⟨_, ha0.put hu oj.dst⟩⟩, hy.on hsi h3 hA, by rw [← upd_comm A V U h2]; exact g2⟩

theorem wpAnyR_first {Q : Known → Prop} {i : Nat} {oi : Oper} {V : Value → Prop} (hi : ops[i]? = some oi) (hsel : ∀ (j : Nat) (o : Oper) cs b, ops[j]? = some o → o.op ≠ .select cs b) (hCne : ∃ w, C w) :
    ∀ (fuel : Nat) (listed : Array Bool) (A : Known),
      (∀ j oj, ops[j]? = some oj → j ≠ i → listed.getD j true = false → (∀ e ∈ oj.after, Region.binds md e = true → e.on ≠ i) → oi.apart ops oj = true) →
      i ∈ Region.ready md ops listed → (Sound A ∧ ∃ a, Fits A a) → Gives P ops C oi A V →
      wpAnyR P md ops C Q fuel (listed.setIfInBounds i true) (upd A oi.dst V) → wpAnyR P md ops C Q (fuel + 1) listed A := by
  intro fuel
  induction fuel with
  | zero =>
    intro listed A _ hr hA hy H
    refine ⟨fun h => (by rw [h] at hr; cases hr), fun j hj => ?_⟩
    by_cases hji : j = i
    · subst hji; unfold rOp; simp only [hi]; exact ⟨V, hy, H⟩
    · have := ready_mono hj hji
      rw [H.1] at this
      cases this
  | succ fuel ih =>
    intro listed A hfree hr hA hy H
    refine ⟨fun h => (by rw [h] at hr; cases hr), fun j hj => ?_⟩
    by_cases hji : j = i
    · subst hji; unfold rOp; simp only [hi]; exact ⟨V, hy, H⟩
    · have h1 := H.2 j (ready_mono hj hji)
      obtain ⟨hjun, oj, hoj, hall⟩ := mem_ready.1 hj
      have hnot : ∀ e ∈ oj.after, Region.binds md e = true → e.on ≠ i := by
        intro e he hb heq
        have h1 := hall e he hb
        have h0 := (mem_ready.1 hr).1
        rw [heq] at h1
        rcases Nat.lt_or_ge i listed.size with h' | h'
        · simp [h'] at h0 h1; rw [h0] at h1; cases h1
        · simp [Array.getElem?_eq_none h'] at h1
      have h2 := rOp_put hoj (hfree j oj hoj hji hjun hnot) (fun cs b => hsel i oi cs b hi) (fun cs b => hsel j oj cs b hoj) hA.1 hA.2 hCne hy h1
      have hfree' : ∀ k ok, ops[k]? = some ok → k ≠ i → (listed.setIfInBounds j true).getD k true = false →
          (∀ e ∈ ok.after, Region.binds md e = true → e.on ≠ i) → oi.apart ops ok = true := by
        intro k ok hk hki hun hno
        refine hfree k ok hk hki ?_ hno
        by_cases hjk : j = k
        · subst hjk; exact hjun
        · rw [getD_set_ne true hjk] at hun; exact hun
      refine rOp_mono (fun A' h3 => ih (listed.setIfInBounds j true) A' hfree' (ready_mono hr (Ne.symm hji)) h3.1 h3.2.1 ?_) h2
      rw [Array.setIfInBounds_comm _ _ hji]
      exact h3.2.2

theorem wpAnyR_lex {Q : Known → Prop} (hs : Region.noSelect ops = true) (hCne : ∃ w, C w) : ∀ (l : List Oper) (k : Nat) (listed : Array Bool) (A : Known), (∀ j, l[j]? = ops[k + j]?) →
    Region.lexFrom md ops l.length k listed = true → (Sound A ∧ ∃ a, Fits A a) → wpR P ops C Q l A → wpAnyR P md ops C Q l.length listed A
  | [], _, _, _, _, hB, _, h => ⟨by simpa [Region.lexFrom] using hB, h⟩
  | o :: l, k, listed, A, hl, hB, hA, h => by
    have h0 : ops[k]? = some o := by simpa using (hl 0).symm
    simp only [List.length_cons, Region.lexFrom, Bool.and_eq_true] at hB
    obtain ⟨⟨hr, hf⟩, hB'⟩ := hB
    obtain ⟨V, hg, hK⟩ := h
    obtain ⟨hS, a0, ha0⟩ := hA
    obtain ⟨w0, hw0⟩ := hCne
    obtain ⟨v, hv⟩ := hg.hits ha0 hw0
    exact wpAnyR_first h0 (Region.noSelect_spec hs) ⟨w0, hw0⟩ l.length listed A (Region.free_spec h0 hf) (by simpa using hr) ⟨hS, a0, ha0⟩ hg
      (wpAnyR_lex hs ⟨w0, hw0⟩ l (k + 1) _ _ (fun j => by have := hl (j + 1); simpa [Nat.add_assoc, Nat.add_comm 1 j] using this) hB' ⟨hS.upd ⟨v, hv⟩ _, _, ha0.put hv _⟩ hK)

/-- **a region that draws its order, in a world 'w', the slots being 'tmps'** -/
theorem wp_region_R {id : Nat} {Q : Exit → Act → World → Prop} {tmps : List Value} {D : List Deferred} {w : World} {l : List Oper} (hm : P.follows .mixedOrders = true) (hB : Region.lexB .any l.toArray = true)
    (h : wpR P l.toArray (fun w' => ∃ n, w' = w.drewN n) (fun A' => ∀ a' n, Fits A' a' → a'.defers = D → Q .normal a' (w.drewN n)) l (tmps.map Is1)) :
    (Code.region id l.toArray true).wp P Q ⟨tmps.toArray, D⟩ w := by
  simp only [Region.lexB, Bool.and_eq_true] at hB
  have hfit : Fits (tmps.map Is1) ⟨tmps.toArray, D⟩ := by
    refine ⟨by simp, fun t S v hS hv => ?_⟩
    simp at hS hv
    obtain ⟨u, hu, rfl⟩ := hS
    rw [hu] at hv
    cases hv; rfl
  have hsound : Sound (tmps.map Is1) := by
    intro t S hS
    simp at hS
    obtain ⟨u, _, rfl⟩ := hS
    exact ⟨u, rfl⟩
  refine wp_region_any hm (wpAny_of_R (C := fun w' => ∃ n, w' = w.drewN n) (Q := fun A' => ∀ a' n, Fits A' a' → a'.defers = D → Q .normal a' (w.drewN n)) D
    (fun A a w' hw ha hd hq => by obtain ⟨n, rfl⟩ := hw; exact hq a n ha hd) _ _ _ _ _ ⟨1, rfl⟩ hfit rfl ?_)
  have := wpAnyR_lex (C := fun w' => ∃ n, w' = w.drewN n) (md := .any) hB.1 ⟨w, 0, rfl⟩ l 0 (Array.replicate l.length false) (tmps.map Is1) (by simp) (by simpa using hB.2) ⟨hsound, _, hfit⟩ h
  simpa using this

end
end Go.Rg
