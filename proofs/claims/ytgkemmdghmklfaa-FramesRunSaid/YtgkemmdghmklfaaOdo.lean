/-
  PLAIN GROUND: an index that is counted on like the hand of a clock; the place of an index under an axis list.
-/
import Derived.Test.YtgkemmdghmklfaaShape
namespace Go.Proofs.Ytgkemmdghmklfaa
set_option linter.unusedSimpArgs false
set_option linter.unusedVariables false

/-- The place: the mixed-radix number whose digits are t at the axes. -/
def atGo : List Int → List Int → List Int → Int → Int
  | a :: r, y :: q, t, acc => atGo r q t (acc * y + t.getD a.toNat 0)
  | _, _, _, acc => acc

/-- Counting on, from position i - 1 down. -/
def bump (s : List Int) : Nat → List Int → List Int
  | 0, t => t
  | i + 1, t => if t.getD i 0 + 1 < s.getD i 0 then t.set i (t.getD i 0 + 1) else bump s i (t.set i 0)

/-- The values at n indices, counted on from t. -/
def movedGo {α : Type} (val : List Int → α) (s : List Int) : Nat → List Int → List α
  | 0, _ => []
  | n + 1, t => val t :: movedGo val s n (bump s t.length t)

theorem movedGo_length {α : Type} (val : List Int → α) (s : List Int) : ∀ (n : Nat) (t : List Int), (movedGo val s n t).length = n
  | 0, _ => rfl
  | n + 1, t => by rw [movedGo, List.length_cons, movedGo_length val s n]

/-- An index within a shape without zeros. -/
def Within (s t : List Int) : Prop := t.length = s.length ∧ ∀ j, j < s.length → 0 ≤ t.getD j 0 ∧ t.getD j 0 < s.getD j 0

theorem getD_set {l : List Int} {i j : Nat} {v : Int} (hi : i < l.length) : (l.set i v).getD j 0 = if i = j then v else l.getD j 0 := by
  simp only [List.getD, List.getElem?_set]
  by_cases h : i = j
  · subst h; simp [hi]
  · simp [h]

theorem bump_length (s : List Int) : ∀ (i : Nat) (t : List Int), (bump s i t).length = t.length
  | 0, _ => rfl
  | i + 1, t => by
    rw [bump]
    split
    · simp
    · rw [bump_length s i]; simp

theorem bump_within (s : List Int) (hpos : ∀ j, j < s.length → 0 < s.getD j 0) : ∀ (i : Nat) (t : List Int), i ≤ s.length → Within s t → Within s (bump s i t)
  | 0, _, _, h => h
  | i + 1, t, hi, h => by
    rw [bump]
    have hl : i < t.length := by rw [h.1]; omega
    split
    · rename_i hlt
      refine ⟨by simp [h.1], fun j hj => ?_⟩
      rw [getD_set hl]
      have := h.2 j hj
      have := h.2 i (by omega)
      split
      · subst_vars; omega
      · omega
    · refine bump_within s hpos i _ (by omega) ⟨by simp [h.1], fun j hj => ?_⟩
      rw [getD_set hl]
      have := h.2 j hj
      have := hpos j hj
      split <;> omega

theorem within_zero (s : List Int) (hpos : ∀ j, j < s.length → 0 < s.getD j 0) : Within s (List.replicate s.length 0) := by
  refine ⟨by simp, fun j hj => ?_⟩
  have := hpos j hj
  simp [List.getD, hj]
  simpa [List.getD, hj] using this

/-- Where the axes' dimensions fit: partial places are less than partial products. -/
def AxesFit (axes ys s : List Int) : Prop := axes.length = ys.length ∧ ∀ i, i < axes.length → 0 ≤ axes.getD i 0 ∧ (axes.getD i 0).toNat < s.length ∧ s.getD (axes.getD i 0).toNat 0 ≤ ys.getD i 0

theorem AxesFit.tail {a y : Int} {axes ys s : List Int} (h : AxesFit (a :: axes) (y :: ys) s) : AxesFit axes ys s := by
  refine ⟨by simpa using h.1, fun i hi => ?_⟩
  have := h.2 (i + 1) (by simpa using hi)
  simpa using this

theorem atGo_bd : ∀ (axes ys s t : List Int) (acc p : Int), AxesFit axes ys s → Within s t → 0 ≤ acc → acc < p → 0 ≤ atGo axes ys t acc ∧ atGo axes ys t acc < prodGo p ys
  | [], [], _, _, acc, p, _, _, h0, h1 => by rw [prodGo]; unfold atGo; exact ⟨h0, h1⟩
  | [], _ :: _, _, _, _, _, h, _, _, _ => by have := h.1; simp at this
  | _ :: _, [], _, _, _, _, h, _, _, _ => by have := h.1; simp at this
  | a :: r, y :: q, s, t, acc, p, h, ht, h0, h1 => by
    rw [atGo, prodGo]
    have hk := h.2 0 (by simp)
    simp only [List.getD_cons_zero] at hk
    obtain ⟨k1, k2, k3⟩ := hk
    have hb := ht.2 a.toNat k2
    have hy : 0 < y := by omega
    have e1 : acc * y ≤ (p - 1) * y := Int.mul_le_mul_of_nonneg_right (by omega) (by omega)
    have e2 : 0 ≤ acc * y := Int.mul_nonneg h0 (by omega)
    rw [Int.sub_mul, Int.one_mul] at e1
    exact atGo_bd r q s t _ _ h.tail ht (by omega) (by omega)

theorem prodGo_nonneg : ∀ (l : List Int) (p : Int), 0 ≤ p → (∀ x ∈ l, 0 ≤ x) → 0 ≤ prodGo p l
  | [], p, h, _ => h
  | d :: r, p, h, hl => by
    rw [prodGo]
    exact prodGo_nonneg r _ (Int.mul_nonneg h (hl d (by simp))) (fun x hx => hl x (by simp [hx]))

theorem rightGo_nonneg : ∀ (l : List Int) (p : Int), rightGo p l = true → ∀ x ∈ l, 0 ≤ x ∧ x ≤ 65536
  | [], _, _, x, hx => by simp at hx
  | d :: r, p, h, x, hx => by
    rw [rightGo] at h
    by_cases h1 : d < 0 ∨ 65536 < d
    · rw [if_pos h1] at h; cases h
    · rw [if_neg h1] at h
      rcases List.mem_cons.1 hx with rfl | hx
      · omega
      · by_cases h2 : d = 0
        · rw [if_pos h2] at h; exact rightGo_nonneg r p h x hx
        · rw [if_neg h2] at h
          by_cases h3 : 65536 < p * d
          · rw [if_pos h3] at h; cases h
          · rw [if_neg h3] at h; exact rightGo_nonneg r _ h x hx

theorem shapeRight_go {s : List Int} (h : shapeRight s = true) : rightGo 1 s = true ∧ s.length ≤ 8 := by
  simp only [shapeRight, Bool.and_eq_true, decide_eq_true_eq] at h
  exact ⟨h.2, h.1⟩

theorem shapeSize_lo (s : List Int) : -1 ≤ shapeSize s := by
  unfold shapeSize
  split
  · rename_i h
    have h1 := rightGo_nonneg s 1 (shapeRight_go h).1
    unfold volOf
    split
    · omega
    · have := prodGo_nonneg s 1 (by omega) (fun x hx => (h1 x hx).1)
      omega
  · omega

theorem prodGo_le : ∀ (l : List Int) (p : Int), p ≤ 65536 → rightGo p l = true → (∀ x ∈ l, x ≠ 0) → prodGo p l ≤ 65536
  | [], p, hp, _, _ => hp
  | d :: r, p, _, h, h0 => by
    rw [prodGo]
    obtain ⟨_, _, h3, h4⟩ := rightGo_cons h (h0 d (by simp))
    exact prodGo_le r _ h3 h4 (fun x hx => h0 x (by simp [hx]))

theorem no_zero {s : List Int} (h : ¬ (s.any fun d => 0 == d) = true) : ∀ x ∈ s, x ≠ 0 := by
  intro x hx h0
  apply h
  rw [List.any_eq_true]
  exact ⟨x, hx, by rw [h0]; rfl⟩

theorem shapeSize_hi (s : List Int) : shapeSize s ≤ 65536 := by
  unfold shapeSize
  split
  · rename_i h
    unfold volOf
    split
    · omega
    · rename_i h2
      exact prodGo_le s 1 (by omega) (shapeRight_go h).1 (no_zero h2)
  · omega

theorem shapeSize_pos {s : List Int} (h : 0 < shapeSize s) : ∀ j, j < s.length → 0 < s.getD j 0 := by
  intro j hj
  unfold shapeSize at h
  split at h
  · rename_i hr
    have h1 := rightGo_nonneg s 1 (shapeRight_go hr).1 (s.getD j 0) (by simp [List.getD, hj])
    unfold volOf at h
    split at h
    · omega
    · rename_i h2
      have := no_zero h2 (s.getD j 0) (by simp [List.getD, hj])
      omega
  · omega
end Go.Proofs.Ytgkemmdghmklfaa
