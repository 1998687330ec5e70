/-
  A size, by its first dimension. No walk.
-/
import Derived.Test.YtgkemmdghmklfaaR02a
import Derived.Test.YtgkemmdghmklfaaRVal
namespace Go.Proofs.Ytgkemmdghmklfaa
set_option linter.unusedSimpArgs false
set_option linter.unusedVariables false
open Go.RowKit

theorem size_cons {d : Int} {r : List Int} (h : rightGo 1 (d :: r) = true) (h8 : (d :: r).length ≤ 8) : shapeSize (d :: r) = d * shapeSize r ∧ 0 ≤ d ∧ d ≤ 65536 ∧ 0 ≤ shapeSize r ∧ shapeSize r ≤ 65536 := by
  have hr := rightGo_tail h
  have h1 : shapeSize (d :: r) = prodA 1 (d :: r) := by
    unfold shapeSize
    rw [if_pos (by simp only [shapeRight, h, Bool.and_true, decide_eq_true_eq]; exact h8), ← prodA_volOf]
  have h2 : shapeSize r = prodA 1 r := by
    unfold shapeSize
    rw [if_pos (by simp only [shapeRight, hr, Bool.and_true, decide_eq_true_eq]; simp at h8; omega), ← prodA_volOf]
  have hd : 0 ≤ d ∧ d ≤ 65536 := by
    rw [rightGo] at h
    by_cases hn : d < 0 ∨ 65536 < d
    · rw [if_pos hn] at h; cases h
    · omega
  refine ⟨?_, hd.1, hd.2, ?_, ?_⟩
  · rw [h1, h2, prodA]
    split
    · rename_i h0; rw [h0]; simp
    · rw [prodA_scale, Int.one_mul]
  · rw [h2]; exact prodA_nonneg r 1 (by omega) hr
  · rw [h2]; exact prodA_le r 1 (by omega) (by omega) hr
end Go.Proofs.Ytgkemmdghmklfaa
