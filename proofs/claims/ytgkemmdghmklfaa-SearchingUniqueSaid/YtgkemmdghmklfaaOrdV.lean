/-
  PLAIN GROUND of law06: the comparison of arrays as a function on trees.
-/
import Derived.Test.YtgkemmdghmklfaaOrdA
import Derived.Test.YtgkemmdghmklfaaSizeC
namespace Go.Proofs.Ytgkemmdghmklfaa
set_option linter.unusedSimpArgs false
set_option linter.unusedVariables false
open Go.RowKit

/-- How many elements a shape has. -/
def volN (s : List Int) : Nat := (shapeSize s).toNat
/-- The first value that is not zero, of f k .. -/
def firstNZ (f : Nat → Int) : Nat → Nat → Int
  | 0, _ => 0
  | m + 1, k => if f k ≠ 0 then f k else firstNZ f m (k + 1)
/-- The comparison of two cells whose elements begin at i and j. -/
def contG (leaf : Nat → Nat → Int) : List Int → List Int → Nat → Nat → Int
  | [], _, i, j => leaf i j
  | d :: s, t, i, j =>
    if firstNZ (fun k => contG leaf s t.tail (i + k * volN s) (j + k * volN t.tail)) (min d (t.headD 0)).toNat 0 ≠ 0 then firstNZ (fun k => contG leaf s t.tail (i + k * volN s) (j + k * volN t.tail)) (min d (t.headD 0)).toNat 0
    else sgn d (t.headD 0)
/-- The contents of two arrays, by a comparison of items. -/
def contA (f : Arr → Arr → Int) : Arr → Arr → Int
  | .mk k s n it, .mk k' s' n' it' => if k ≠ k' ∨ s.length ≠ s'.length then 0 else contG (fun i j => if k = 3 then f (it.getD i default) (it'.getD j default) else sgn (n.getD i 0) (n'.getD j 0)) s s' 0 0
/-- The comparison, m steps deep. -/
def cmpF : Nat → Arr → Arr → Int
  | 0, _, _ => 0
  | m + 1, .mk k s n it, .mk k' s' n' it' =>
    if k ≠ k' then sgn k k' else if s.length ≠ s'.length then sgn s.length s'.length else
    if contA (cmpF m) (.mk k s n it) (.mk k' s' n' it') ≠ 0 then contA (cmpF m) (.mk k s n it) (.mk k' s' n' it') else lexV s s'

mutual
def szA : Arr → Nat
  | .mk _ _ _ it => szL it + 1
def szL : List Arr → Nat
  | [] => 0
  | x :: r => szA x + szL r + 1
end
theorem szL_mem : ∀ {l : List Arr} {t : Arr}, t ∈ l → szA t < szL l
  | [], t, h => by simp at h
  | x :: r, t, h => by
    rw [szL]
    rcases List.mem_cons.1 h with rfl | h
    · omega
    · have := szL_mem h; omega
theorem szA_item {k : Int} {s n : List Int} {it : List Arr} {t : Arr} (h : t ∈ it) : szA t < szA (.mk k s n it) := by
  have := szL_mem h
  rw [szA.eq_def (.mk k s n it)]
  show szA t < szL it + 1
  omega
theorem firstNZ_bd {f : Nat → Int} (h : ∀ k, -1 ≤ f k ∧ f k ≤ 1) : ∀ m k, -1 ≤ firstNZ f m k ∧ firstNZ f m k ≤ 1
  | 0, _ => by simp [firstNZ]
  | m + 1, k => by
    rw [firstNZ]
    split
    · exact h k
    · exact firstNZ_bd h m (k + 1)
theorem contG_bd {leaf : Nat → Nat → Int} (h : ∀ i j, -1 ≤ leaf i j ∧ leaf i j ≤ 1) : ∀ (s t : List Int) (i j : Nat), -1 ≤ contG leaf s t i j ∧ contG leaf s t i j ≤ 1
  | [], _, i, j => h i j
  | d :: s, t, i, j => by
    rw [contG]
    split
    · exact firstNZ_bd (fun k => contG_bd h s _ _ _) _ _
    · exact sgn_bd _ _
theorem lexV_bd : ∀ (s t : List Int), -1 ≤ lexV s t ∧ lexV s t ≤ 1
  | [], [] => by simp [lexV]
  | [], _ :: _ => by simp [lexV]
  | _ :: _, [] => by simp [lexV]
  | a :: s, b :: t => by
    rw [lexV]
    split
    · exact sgn_bd _ _
    · exact lexV_bd s t
theorem contA_bd {f : Arr → Arr → Int} (h : ∀ x y, -1 ≤ f x y ∧ f x y ≤ 1) (a b : Arr) : -1 ≤ contA f a b ∧ contA f a b ≤ 1 := by
  obtain ⟨k, s, n, it⟩ := a
  obtain ⟨k', s', n', it'⟩ := b
  rw [contA]
  split
  · omega
  · refine contG_bd (fun i j => ?_) _ _ _ _
    split
    · exact h _ _
    · exact sgn_bd _ _
theorem cmpF_bd : ∀ (m : Nat) (a b : Arr), -1 ≤ cmpF m a b ∧ cmpF m a b ≤ 1
  | 0, _, _ => by simp [cmpF]
  | m + 1, .mk k s n it, .mk k' s' n' it' => by
    rw [cmpF]
    split
    · exact sgn_bd _ _
    · split
      · exact sgn_bd _ _
      · split
        · exact contA_bd (cmpF_bd m) _ _
        · exact lexV_bd _ _

/-- A shape that is right, from place a on. -/
theorem vol_drop {s : List Int} (hr : rightGo 1 s = true) (h8 : s.length ≤ 8) {a : Nat} (ha : a < s.length) :
    0 ≤ s.getD a 0 ∧ s.getD a 0 ≤ 65536 ∧ volN (s.drop a) = (s.getD a 0).toNat * volN (s.drop (a + 1)) ∧ volN (s.drop (a + 1)) ≤ 65536 ∧ shapeSize (s.drop (a + 1)) = volN (s.drop (a + 1)) := by
  have h1 := rightGo_drop s a hr
  rw [drop_getD ha] at h1
  have hl : (s.getD a 0 :: s.drop (a + 1)).length ≤ 8 := by rw [← drop_getD ha, List.length_drop]; omega
  obtain ⟨h2, h3, h4, h5, h6⟩ := size_cons h1 hl
  refine ⟨h3, h4, ?_, by unfold volN; omega, by unfold volN; omega⟩
  unfold volN
  rw [drop_getD ha, h2, Int.toNat_mul h3 h5]
theorem vol_nil : volN [] = 1 := by decide
end Go.Proofs.Ytgkemmdghmklfaa
