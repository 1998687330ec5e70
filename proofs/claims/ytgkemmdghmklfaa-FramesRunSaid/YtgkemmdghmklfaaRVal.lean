/-
  PLAIN LAWS on the reference's check of an array (dimsV, countV, rright).
-/
import Derived.Test.YtgkemmdghmklfaaCheck
namespace Go.Proofs.Ytgkemmdghmklfaa
set_option linter.unusedSimpArgs false
set_option linter.unusedVariables false
open Go.RowKit

/-- What it means to be right, for the reference. -/
theorem rright_parts {k : Int} {s n : List Int} {it : List Arr} (h : rrightV (.mk k s n it) = 0) :
    (k = 1 ∨ k = 2 ∨ k = 3) ∧ dimsV s = 0 ∧ sizeV (.mk k s n it) = countV s ∧ othV k n it = 0 := by
  unfold rrightV at h
  rw [rcheckV] at h
  split at h
  · cases h
  · rename_i h1
    split at h
    · rename_i h2; exact absurd h h2
    · rename_i h2
      split at h
      · cases h
      · rename_i h3
        split at h
        · cases h
        · rename_i h4
          exact ⟨by omega, by omega, by omega, by omega⟩

theorem rprod_right : ∀ (s : List Int) (n : Int), 0 ≤ n → n ≤ 65536 → (∀ d ∈ s, 0 ≤ d) → (rightGo n s = true → rprod n s ≤ 65536) ∧ (rightGo n s = false → rprod n s = 65537)
  | [], n, _, h1, _ => ⟨fun _ => h1, fun h => by cases h⟩
  | d :: r, n, h0, h1, hs => by
    have hd := hs d (by simp)
    have hr : ∀ x ∈ r, 0 ≤ x := fun x hx => hs x (by simp [hx])
    rw [rightGo, rprod]
    by_cases h2 : 65536 < d
    · rw [if_pos h2, if_pos (.inr h2)]; simp
    · rw [if_neg h2, if_neg (by omega)]
      by_cases h3 : d = 0
      · rw [if_pos h3, if_neg (by omega)]
        exact rprod_right r n h0 h1 hr
      · rw [if_neg h3, if_pos (show 0 < d by omega)]
        by_cases h4 : 65536 < n * d
        · rw [if_pos h4, if_pos h4]; simp
        · rw [if_neg h4, if_neg h4]
          exact rprod_right r _ (Int.mul_nonneg h0 hd) (by omega) hr
theorem neg_none {s : List Int} (h : ¬ s.any isNeg = true) : ∀ d ∈ s, 0 ≤ d := fun d hd => by
  have : ¬ isNeg d = true := fun hc => h (List.any_eq_true.2 ⟨d, hd, hc⟩)
  simpa [isNeg] using this
theorem dimsV_eq (s : List Int) : dimsV s = if 8 < s.length then 15 else if s.any isNeg = true then 16 else if shapeRight s = false then 21 else 0 := by
  unfold dimsV
  by_cases h8 : 8 < s.length
  · rw [if_pos h8, if_pos h8]
  · rw [if_neg h8, if_neg h8]
    by_cases hn : s.any isNeg = true
    · rw [if_pos hn, if_pos hn]
    · rw [if_neg hn, if_neg hn]
      have hp := rprod_right s 1 (by omega) (by omega) (neg_none hn)
      have hsr : shapeRight s = rightGo 1 s := by simp [shapeRight]; omega
      rw [hsr]
      cases hg : rightGo 1 s with
      | true => have := hp.1 hg; rw [if_neg (by omega), if_neg (by simp)]
      | false => have := hp.2 hg; rw [if_pos (by omega), if_pos rfl]
theorem dimsV_zero {s : List Int} (h : dimsV s = 0) : s.length ≤ 8 ∧ rightGo 1 s = true := by
  rw [dimsV_eq] at h
  split at h
  · cases h
  · split at h
    · cases h
    · split at h
      · cases h
      · rename_i h1 h2 h3
        have := shapeRight_go (by simpa using h3)
        exact ⟨this.2, this.1⟩
theorem rprod_prodGo : ∀ (s : List Int) (n : Int), rightGo n s = true → (∀ d ∈ s, d ≠ 0) → rprod n s = prodGo n s
  | [], n, _, _ => rfl
  | d :: r, n, h, h0 => by
    have hd := h0 d (by simp)
    obtain ⟨h1, h2, h3, h4⟩ := rightGo_cons h hd
    rw [rprod, if_neg (by omega), if_pos h1, if_neg (by omega), prodGo]
    exact rprod_prodGo r _ h4 (fun x hx => h0 x (by simp [hx]))
theorem countV_eq {s : List Int} (h : rightGo 1 s = true) (h8 : s.length ≤ 8) : countV s = shapeSize s := by
  have hs : shapeSize s = volOf s := by rw [shapeSize, if_pos (by simp [shapeRight, h, h8])]
  rw [hs]
  unfold countV volOf
  have e : (s.any fun d => d == 0) = s.any (fun d => 0 == d) := by
    congr 1; funext d; rw [Bool.eq_iff_iff, beq_iff_eq, beq_iff_eq]; exact eq_comm
  rw [e]
  by_cases hz : (s.any fun d => 0 == d) = true
  · rw [if_pos hz, if_pos hz]
  · rw [if_neg hz, if_neg hz]
    exact rprod_prodGo s 1 h (no_zero hz)

/-- All that transposed needs. -/
theorem rright_all {k : Int} {s n : List Int} {it : List Arr} (h : rrightV (.mk k s n it) = 0) :
    s.length ≤ 8 ∧ rightGo 1 s = true ∧ (k ≠ 3 → (n.length : Int) = shapeSize s) ∧ (k = 3 → (it.length : Int) = shapeSize s) := by
  obtain ⟨h1, h2, h3, h4⟩ := rright_parts h
  obtain ⟨h5, h6⟩ := dimsV_zero h2
  rw [countV_eq h6 h5] at h3
  refine ⟨h5, h6, fun hk => ?_, fun hk => ?_⟩
  · rw [← h3, sizeV, if_pos (by omega)]
  · rw [← h3, sizeV, if_neg (by omega), if_pos hk]

end Go.Proofs.Ytgkemmdghmklfaa
