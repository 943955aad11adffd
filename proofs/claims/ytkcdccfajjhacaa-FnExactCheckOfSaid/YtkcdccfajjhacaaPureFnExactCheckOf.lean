import Derived.Test.YtkcdccfajjhacaaPFnExactCheckOfx1
namespace Go.Proofs.Ytkcdccfajjhacaa.Pure
open Go.RowKit Go.Proofs.Ytkcdccfajjhacaa.PFnExactCheckOf Go.Proofs.YtkcdccfajjhacaaW.PrintWords Go.Proofs.YtkcdccfajjhacaaW.PrintLast

theorem both (s : ByteArray) (hn : s.size ≤ 140737488351232) (d : Nat) : ∀ (k : Nat) (x i : Int), 0 ≤ i → i ≤ s.size → (s.size : Int) - i = d → d < k →
    ∃ r, spec_l01Check.l0 k x s i = some r ∧ impl_check.l0 k x s s.size i = some r := by
  induction d with
  | zero =>
    intro k x i h0 h1 hd hk
    obtain ⟨k, rfl⟩ : ∃ m, k = m + 1 := ⟨k - 1, by omega⟩
    have hlt : ¬ i < (s.size : Int) := by omega
    simp only [spec_l01Check.l0, impl_check.l0, if_neg hlt]
    exact ⟨_, rfl, rfl⟩
  | succ d ih =>
    intro k x i h0 h1 hd hk
    obtain ⟨k, rfl⟩ : ∃ m, k = m + 1 := ⟨k - 1, by omega⟩
    have hlt : i < (s.size : Int) := by omega
    have hw : wrap64 (i + 1) = i + 1 := by unfold wrap64; omega
    simp only [spec_l01Check.l0, impl_check.l0, if_pos hlt, if_pos h0, hw]
    exact ih k _ (i + 1) (by omega) (by omega) (by omega) (by omega)

theorem FnExactCheckOf : laws_FnExactCheckOf.Pure := by
  intro a s _ hn
  obtain ⟨r, h1, h2⟩ := both s hn s.size (s.size + 1) a 0 (by omega) (by omega) (by omega) (by omega)
  refine ⟨s.size + 1, ?_⟩
  unfold laws_FnExactCheckOf.f spec_CheckOf.f impl_CheckOf.f spec_l01Check.f impl_check.f spec_l00In.f impl_within.f
  rw [h1, h2]
  by_cases g : (s.size : Int) > 1048576
  · rw [if_pos g]
  · rw [if_neg g]
    by_cases h0 : 0 ≤ a
    · by_cases h3 : a ≤ 65002
      · simp [h0, h3]
      · simp [h0, h3]
    · simp [h0]

end Go.Proofs.Ytkcdccfajjhacaa.Pure
