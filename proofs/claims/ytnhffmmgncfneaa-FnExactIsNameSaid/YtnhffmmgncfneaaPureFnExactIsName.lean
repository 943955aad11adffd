/-
  THE PLAIN LAW of 'FnExactIsName': both texts' loops tell the same of every string.
-/
import Derived.Test.YtnhffmmgncfneaaPFnExactIsNamex1
namespace Go.Proofs.Ytnhffmmgncfneaa.Pure
open Go.RowKit Go.Proofs.Ytnhffmmgncfneaa.PFnExactIsName Go.Proofs.YtnhffmmgncfneaaW.PrintWords Go.Proofs.YtnhffmmgncfneaaW.PrintLast

theorem both (s : ByteArray) (hn : s.size ≤ 140737488351232) (d : Nat) : ∀ (k : Nat) (i : Int), 0 ≤ i → i ≤ s.size → (s.size : Int) - i = d → d < k →
    ∃ r, spec_IsName.l0 k s i = some r ∧ impl_IsName.l0 k s s.size i = some r := by
  induction d with
  | zero =>
    intro k i h0 h1 hd hk
    obtain ⟨k, rfl⟩ : ∃ m, k = m + 1 := ⟨k - 1, by omega⟩
    have hlt : ¬ i < (s.size : Int) := by omega
    simp only [spec_IsName.l0, impl_IsName.l0, if_neg hlt]
    by_cases g : (s.size : Int) ≥ 1
    · simp only [if_pos g]; exact ⟨_, rfl, rfl⟩
    · simp only [if_neg g]; exact ⟨_, rfl, rfl⟩
  | succ d ih =>
    intro k i h0 h1 hd hk
    obtain ⟨k, rfl⟩ : ∃ m, k = m + 1 := ⟨k - 1, by omega⟩
    have hlt : i < (s.size : Int) := by omega
    have hw : wrap64 (i + 1) = i + 1 := by unfold wrap64; omega
    simp only [spec_IsName.l0, impl_IsName.l0, if_pos hlt, if_pos h0]
    by_cases g : bt s i < 97
    · simp only [if_pos g]; exact ⟨_, rfl, rfl⟩
    · by_cases g2 : bt s i > 122
      · simp only [if_neg g, if_pos g2]; exact ⟨_, rfl, rfl⟩
      · simp only [if_neg g, if_neg g2, hw]
        exact ih k (i + 1) (by omega) (by omega) (by omega) (by omega)

theorem FnExactIsName : laws_FnExactIsName.Pure := by
  intro s hn
  obtain ⟨r, h1, h2⟩ := both s hn s.size (s.size + 1) 0 (by omega) (by omega) (by omega) (by omega)
  refine ⟨s.size + 1, ?_⟩
  unfold laws_FnExactIsName.f spec_IsName.f impl_IsName.f
  rw [h1, h2]
  simp only [Option.bind_some]
  by_cases g : (s.size : Int) > 1048576
  · rw [if_pos g]
  · rw [if_neg g]; simp

end Go.Proofs.Ytnhffmmgncfneaa.Pure
