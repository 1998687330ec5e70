/-
  SORTING NUMBERS, plain: what Sort makes of a vector; it is one and the same for every order of the numbers. No walk.
-/
import Derived.Test.YtgeppialbkijiaaGAwk
namespace Go.Proofs.Ytgeppialbkijiaa
set_option linter.unusedSimpArgs false
set_option linter.unusedVariables false
open Go.RowKit

theorem size_nil : shapeSize [] = 1 := by rfl
theorem vec_rowsC {l : List Int} (h : rightV (vecV l) = 0) : rowsE (vecV l) = 0 ∧ rowsC (vecV l) = l.map numV := by
  have he : rowsE (vecV l) = 0 := by unfold rowsE; rw [if_neg (by rw [h]; simp)]; rfl
  refine ⟨he, ?_⟩
  have hs : shapeSize [(l.length : Int)] = l.length := ((right_parts h).2.2.2.1 (by decide)).2.symm
  have h1 : rowsC (vecV l) = (List.range (shapeSize [(l.length : Int)]).toNat).map fun i => partV (vecV l) (i * 1) 1 [] := by
    unfold rowsC cellsV vecV
    simp only [Arr.sh]
    have h2 : rightV (.mk 1 [(l.length : Int)] l []) = 0 := h
    rw [if_neg (by rw [h2]; simp)]
    have h3 : (([(l.length : Int)] : List Int).length - (rankV ((([(l.length : Int)] : List Int).length : Int) - 1) (([(l.length : Int)] : List Int).length : Int)).toNat) = 1 := by
      simp [rankV]
    rw [h3]
    rfl
  rw [h1, hs, Int.toNat_natCast]
  apply List.ext_getElem
  · simp
  · intro i h2 h3
    have hi : i < l.length := by simpa using h2
    simp only [List.getElem_map, List.getElem_range]
    show Arr.mk 1 [] (if (1 : Int) = 3 then [] else (l.drop (i * 1)).take 1) (if (1 : Int) = 3 then (([] : List Arr).drop (i * 1)).take 1 else []) = numV l[i]
    rw [if_neg (by decide), if_neg (by decide), Nat.mul_one, List.drop_eq_getElem_cons hi]
    rfl
theorem cmp_num (m : Nat) (a b : Int) : cmpF (m + 1) (numV a) (numV b) = sgn a b := by
  have hA : contA (cmpF m) (.mk 1 [] [a] []) (.mk 1 [] [b] []) = sgn a b := by
    rw [contA, if_neg (by simp)]
    rfl
  have h : cmpF (m + 1) (numV a) (numV b) = if (1 : Int) ≠ 1 then sgn 1 1 else if (0 : Nat) ≠ 0 then sgn 0 0 else
      if contA (cmpF m) (.mk 1 [] [a] []) (.mk 1 [] [b] []) ≠ 0 then contA (cmpF m) (.mk 1 [] [a] []) (.mk 1 [] [b] []) else lexV [] [] := rfl
  rw [h, if_neg (by decide), if_neg (by decide), hA]
  split
  · rfl
  · rename_i h0
    rw [lexV]
    exact (Classical.byContradiction fun hc => h0 (fun e => hc e.symm))
theorem vec_rowsOk {l : List Int} (h : rightV (vecV l) = 0) : RowsOk 2 (vecV l) := fun h0 t ht => by
  refine ⟨?_, rows_right h0 t ht⟩
  rw [(vec_rowsC h).2] at ht
  obtain ⟨a, _, rfl⟩ := List.mem_map.1 ht
  unfold numV
  rw [szA, szL]
  decide
/-- The numbers in order. -/
def sortN (l : List Int) : List Int := (sorted (cmpF 2) (l.map numV)).flatMap Arr.n
theorem flat_num : ∀ (l : List Arr), (∀ t ∈ l, ∃ a, t = numV a) → (l.flatMap Arr.n).map numV = l ∧ l.flatMap Arr.it = []
  | [], _ => ⟨rfl, rfl⟩
  | t :: l, h => by
    obtain ⟨a, rfl⟩ := h t (by simp)
    obtain ⟨h1, h2⟩ := flat_num l fun x hx => h x (by simp [hx])
    constructor
    · show numV a :: (l.flatMap Arr.n).map numV = _
      rw [h1]
    · show ([] : List Arr) ++ l.flatMap Arr.it = []
      rw [h2]; rfl
theorem flat_map_num (l : List Int) : (l.map numV).flatMap Arr.n = l := by
  induction l with
  | nil => rfl
  | cons a r ih => show a :: (r.map numV).flatMap Arr.n = _; rw [ih]
theorem sortN_perm (l : List Int) : (sortN l).Perm l := by
  have h := (sorted_perm (cmpF 2) (l.map numV)).flatMap_right Arr.n
  rw [flat_map_num] at h
  exact h
theorem sorted_nums (l : List Int) : ∀ t ∈ sorted (cmpF 2) (l.map numV), ∃ a, t = numV a := by
  intro t ht
  have := (sorted_perm (cmpF 2) (l.map numV)).mem_iff.1 ht
  obtain ⟨a, _, rfl⟩ := List.mem_map.1 this
  exact ⟨a, rfl⟩
theorem sortN_pw (l : List Int) : (sortN l).Pairwise (fun a b => a ≤ b) := by
  have h := sorted_pw (cmpF_ord 2) (l.map numV)
  rw [← (flat_num _ (sorted_nums l)).1] at h
  refine (List.pairwise_map.1 h).imp fun {a b} hab => ?_
  rw [cmp_num] at hab
  unfold sgn at hab
  split at hab
  · omega
  · split at hab
    · omega
    · omega
theorem sortN_one {l t : List Int} (h : l.Perm t) : sortN l = sortN t := sorted_one (((sortN_perm l).trans h).trans (sortN_perm t).symm) (sortN_pw l) (sortN_pw t)
theorem sortN_self (l : List Int) : sortN (sortN l) = sortN l := sortN_one (sortN_perm l)
theorem sortN_length (l : List Int) : (sortN l).length = l.length := (sortN_perm l).length_eq
theorem sort_vec {l : List Int} (h : rightV (vecV l) = 0) : sortV (cmpF 2) (vecV l) = vecV (sortN l) := by
  obtain ⟨h0, h1⟩ := vec_rowsC h
  unfold sortV
  rw [if_neg (by rw [h0]; simp), h1, (flat_num _ (sorted_nums l)).2]
  show Arr.mk 1 [(l.length : Int)] (sortN l) [] = _
  unfold vecV
  rw [sortN_length]
/-- A vector of numbers in the language's range. -/
theorem vec_ok {l : List Int} (hl : l.length ≤ 65536) (h : ∀ x ∈ l, -4611686018427387903 ≤ x ∧ x ≤ 4611686018427387903) : rightV (vecV l) = 0 := vec_right2 hl h
end Go.Proofs.Ytgeppialbkijiaa
