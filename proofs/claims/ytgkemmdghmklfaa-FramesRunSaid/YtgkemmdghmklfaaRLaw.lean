/-
  PLAIN LAW: the reference's check of an array is the program's: rcheckV and visitV agree.
-/
import Derived.Test.YtgkemmdghmklfaaRVal
namespace Go.Proofs.Ytgkemmdghmklfaa
set_option linter.unusedSimpArgs false
set_option linter.unusedVariables false

theorem form_dims {k : Int} {s n : List Int} {it : List Arr} (hk : k = 1 ∨ k = 2 ∨ k = 3) :
    formV (.mk k s n it) = if dimsV s ≠ 0 then dimsV s else if sizeV (.mk k s n it) ≠ countV s then 16 else if 0 < othV k n it then 16 else 0 := by
  have key : ∀ (used other : Nat), formOf k s used other = if dimsV s ≠ 0 then dimsV s else if (used : Int) ≠ countV s then 16 else if 0 < other then 16 else 0 := by
    intro used other
    unfold formOf
    rw [if_neg (by omega)]
    by_cases hd : dimsV s = 0
    · obtain ⟨h8, hg⟩ := dimsV_zero hd
      have hn : ¬ s.any isNeg = true := by
        intro h
        rw [dimsV_eq, if_neg (by omega), if_pos h] at hd
        cases hd
      have hsr : shapeRight s = true := by simp [shapeRight, h8, hg]
      rw [if_neg (by omega), if_neg hn, if_neg (by simp [hsr]), if_neg (show ¬ dimsV s ≠ 0 by omega), countV_eq hg h8]
      by_cases hu : (used : Int) = shapeSize s
      · have e1 : ¬ ((used : Int) != shapeSize s) = true := by simp [hu]
        have e2 : ¬ (used : Int) ≠ shapeSize s := by simp [hu]
        rw [if_neg e1, if_neg e2]
        by_cases ho : other = 0
        · rw [if_neg (show ¬ other ≠ 0 by omega), if_neg (show ¬ 0 < other by omega)]
        · rw [if_pos ho, if_pos (show 0 < other by omega)]
      · rw [if_pos (by simpa using hu), if_pos hu]
    · rw [if_pos hd]
      have h := dimsV_eq s
      by_cases h8 : 8 < s.length
      · rw [if_pos h8] at h ⊢; exact h.symm
      · rw [if_neg h8] at h ⊢
        by_cases hn : s.any isNeg = true
        · rw [if_pos hn] at h ⊢; exact h.symm
        · rw [if_neg hn] at h ⊢
          by_cases hs : shapeRight s = false
          · rw [if_pos hs] at h ⊢; exact h.symm
          · rw [if_neg hs] at h; exact absurd h hd
  rw [formV]
  by_cases h3 : k = 3
  · rw [if_pos h3, key]
    have e1 : sizeV (.mk k s n it) = it.length := by rw [sizeV, if_neg (by omega), if_pos h3]
    have e2 : othV k n it = n.length := by rw [othV, if_pos h3]
    rw [e1, e2]
  · rw [if_neg h3, key]
    have e1 : sizeV (.mk k s n it) = n.length := by rw [sizeV, if_pos (by omega)]
    have e2 : othV k n it = it.length := by rw [othV, if_neg h3]
    rw [e1, e2]

theorem rwGo_stop : ∀ (l : List Arr) (n : Int), 262144 < n → rwGo n l = n
  | [], n, _ => by rw [rwGo]
  | x :: r, n, h => by rw [rwGo, if_neg (by omega)]

theorem ritems_eq : ∀ (l : List Arr) (d wt : Int), (∀ x ∈ l, rcheckV x = ((visitV x).1, (visitV x).2.1)) → ritems l d = (itemsV l d wt).map (·.1)
  | [], d, wt, _ => by rw [ritems, itemsV]; rfl
  | x :: r, d, wt, h => by
    rw [ritems, itemsV, h x (by simp)]
    dsimp only
    by_cases he : (visitV x).1 ≠ 0
    · rw [if_pos he, if_pos he]; rfl
    · rw [if_neg he, if_neg he]
      exact ritems_eq r _ _ (fun y hy => h y (by simp [hy]))
theorem rwGo_eq : ∀ (l : List Arr) (n d d' wt' : Int), 0 ≤ n → (∀ x ∈ l, (visitV x).1 = 0 → rwV x = (visitV x).2.2) → itemsV l d (min n 262145) = some (d', wt') → wt' = min (rwGo n l) 262145
  | [], n, d, d', wt', _, _, h => by
    rw [itemsV] at h
    cases h
    rw [rwGo]
  | x :: r, n, d, d', wt', h0, hx, h => by
    rw [itemsV] at h
    by_cases he : (visitV x).1 ≠ 0
    · rw [if_pos he] at h; cases h
    · rw [if_neg he] at h
      have hw := hx x (by simp) (by omega)
      have hb := visitV_bd _ x (Nat.lt_succ_self _)
      have e : min (min n 262145 + (visitV x).2.2) 262145 = min (n + (visitV x).2.2) 262145 := by omega
      rw [e] at h
      have ih := rwGo_eq r (n + (visitV x).2.2) _ d' wt' (by omega) (fun y hy => hx y (by simp [hy])) h
      rw [rwGo]
      by_cases hn : n ≤ 262144
      · rw [if_pos hn, hw]; exact ih
      · rw [if_neg hn]
        rw [rwGo_stop r _ (by omega)] at ih
        omega

theorem check_visit : ∀ (m : Nat) (t : Arr), SizeOf.sizeOf t < m → rcheckV t = ((visitV t).1, (visitV t).2.1) ∧ ((visitV t).1 = 0 → rwV t = (visitV t).2.2)
  | 0, _, h => by omega
  | m + 1, .mk k s n it, h => by
    have ih : ∀ x ∈ it, rcheckV x = ((visitV x).1, (visitV x).2.1) ∧ ((visitV x).1 = 0 → rwV x = (visitV x).2.2) := fun x hx => by
      have := List.sizeOf_lt_of_mem hx
      exact check_visit m x (by simp at h; omega)
    rw [rcheckV, visitV]
    by_cases hk : k < 1 ∨ 3 < k
    · rw [if_pos hk]
      have hf : formV (.mk k s n it) = 14 := by
        rw [formV]
        split <;> (unfold formOf; rw [if_pos (by omega)])
      rw [if_pos (by omega), hf]
      exact ⟨rfl, fun h => by cases h⟩
    · rw [if_neg hk]
      have hf := form_dims (s := s) (n := n) (it := it) (show k = 1 ∨ k = 2 ∨ k = 3 by omega)
      by_cases hd : dimsV s ≠ 0
      · rw [if_pos hd] at hf ⊢
        rw [hf, if_pos hd]
        exact ⟨rfl, fun h => absurd h hd⟩
      rw [if_neg hd] at hf ⊢
      by_cases hs : sizeV (.mk k s n it) ≠ countV s
      · rw [if_pos hs] at hf ⊢
        rw [hf]
        exact ⟨rfl, fun h => by cases h⟩
      rw [if_neg hs] at hf ⊢
      by_cases ho : 0 < othV k n it
      · rw [if_pos ho] at hf ⊢
        rw [hf]
        exact ⟨rfl, fun h => by cases h⟩
      rw [if_neg ho] at hf ⊢
      rw [hf, if_neg (show ¬ (0 : Int) ≠ 0 by simp)]
      by_cases hb : n.any (badNum k) = true
      · rw [if_pos hb, if_pos hb]
        exact ⟨rfl, fun h => by cases h⟩
      rw [if_neg hb, if_neg hb]
      rw [ritems_eq it 0 ((n.length : Int) + it.length) (fun x hx => (ih x hx).1)]
      obtain ⟨h8, hg⟩ := dimsV_zero (s := s) (by omega)
      have hsz : sizeV (.mk k s n it) = shapeSize s := by rw [← countV_eq hg h8]; omega
      have hsm := shapeSize_hi s
      have hwt : (n.length : Int) + it.length = sizeV (.mk k s n it) := by
        unfold othV at ho
        rw [sizeV]
        split at ho
        · rename_i h3; rw [if_neg (by omega), if_pos h3]; omega
        · rename_i h3; rw [if_pos (by omega)]; omega
      cases hi : itemsV it 0 ((n.length : Int) + it.length) with
      | none => exact ⟨rfl, fun h => by cases h⟩
      | some p =>
        obtain ⟨d, wt⟩ := p
        dsimp only [Option.map_some]
        have hw : rwV (.mk k s n it) = wt := by
          rw [rwV]
          by_cases h3 : k = 3
          · rw [if_pos h3]
            have h0 : 0 ≤ sizeV (.mk k s n it) := by omega
            rw [hwt, show sizeV (.mk k s n it) = min (sizeV (.mk k s n it)) 262145 by omega] at hi
            exact (rwGo_eq it _ 0 d wt h0 (fun x hx => (ih x hx).2) hi).symm
          · rw [if_neg h3]
            have hnil : it = [] := by
              unfold othV at ho
              rw [if_neg h3] at ho
              exact List.eq_nil_of_length_eq_zero (by omega)
            subst hnil
            rw [itemsV] at hi
            cases hi
            omega
        by_cases hd16 : 16 < d
        · rw [if_pos hd16, if_pos (.inl hd16)]
          exact ⟨rfl, fun h => by cases h⟩
        · rw [if_neg hd16, hw]
          by_cases hw2 : 262144 < wt
          · rw [if_pos hw2, if_pos (.inr hw2)]
            exact ⟨rfl, fun h => by cases h⟩
          · rw [if_neg hw2, if_neg (by omega)]
            exact ⟨rfl, fun _ => rfl⟩

theorem rright_eq (t : Arr) : rrightV t = rightV t := by
  unfold rrightV rightV
  rw [(check_visit _ t (Nat.lt_succ_self _)).1]
end Go.Proofs.Ytgkemmdghmklfaa
