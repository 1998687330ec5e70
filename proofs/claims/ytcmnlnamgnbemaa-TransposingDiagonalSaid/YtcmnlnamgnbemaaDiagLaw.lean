/-
  PLAIN GROUND: the diagonal of a small matrix.
-/
import Derived.Test.YtcmnlnamgnbemaaAwake
namespace Go.Proofs.Ytcmnlnamgnbemaa

theorem small2 : ∀ n m : Fin 20, shapeRight [(n.val : Int), (m.val : Int)] = true ∧ shapeSize [(n.val : Int), (m.val : Int)] = (n.val : Int) * m.val := by decide
theorem small1 : ∀ n : Fin 20, shapeSize [(n.val : Int)] = (n.val : Int) := by decide

theorem right_mat (n m : Nat) (hn : n < 20) (hm : m < 20) (l : List Int) (hl : l.length = n * m) (h255 : ∀ x ∈ l, 0 ≤ x ∧ x ≤ 255) : rightV (.mk 1 [(n : Int), (m : Int)] l []) = 0 := by
  obtain ⟨h1, h2⟩ := small2 ⟨n, hn⟩ ⟨m, hm⟩
  simp only at h1 h2
  have hf : formV (.mk 1 [(n : Int), (m : Int)] l []) = 0 := by
    show (if (1 : Int) = 3 then formOf 1 [(n : Int), (m : Int)] 0 l.length else formOf 1 [(n : Int), (m : Int)] l.length 0) = 0
    rw [if_neg (by omega)]
    unfold formOf
    rw [if_neg (by omega), if_neg (by simp), if_neg (by simp [isNeg]), h1, if_neg (by simp), h2, hl, if_neg (by simp [Int.natCast_mul]), if_neg (by simp)]
  have hb : l.any (badNum 1) = false := by
    rw [List.any_eq_false]
    intro x hx
    have := h255 x hx
    simp [badNum, isNum]
    omega
  have hlen : l.length ≤ 400 := by
    rw [hl]
    have := Nat.mul_le_mul (Nat.le_of_lt_succ hn) (Nat.le_of_lt_succ hm)
    omega
  unfold rightV
  rw [visitV, if_neg (by simp [hf]), hb, if_neg (by simp), itemsV]
  simp
  rw [if_neg (by omega)]

theorem dims_diag (n m : Nat) : dimsGo [0, 0] [(n : Int), (m : Int)] [] = [((min n m : Nat) : Int)] := by
  have h1 : dimsPut [] 0 (n : Int) = [(n : Int)] := by rfl
  have h2 : dimsPut [(n : Int)] 0 (m : Int) = [((min n m : Nat) : Int)] := by
    show (if (n : Int) < 0 ∨ (m : Int) < n then [(m : Int)] else [(n : Int)]) = _
    split
    · congr 1; omega
    · congr 1; omega
  rw [dimsGo, dimsGo, h1, h2, dimsGo]
  · intros; simp_all
  
theorem movedGo_diag (nums : List Int) (n m k : Nat) : ∀ (q j : Nat), j + q ≤ k →
    movedGo (fun t => nums.getD (atGo [0, 0] [(n : Int), (m : Int)] t 0).toNat 0) [(k : Int)] q [(j : Int)] = (List.range q).map fun i => nums.getD ((j + i) * m + (j + i)) 0
  | 0, _, _ => rfl
  | q + 1, j, h => by
    rw [movedGo, List.range_succ_eq_map, List.map_cons, List.map_map]
    have h0 : atGo [0, 0] [(n : Int), (m : Int)] [(j : Int)] 0 = ((j * m + j : Nat) : Int) := by
      simp [atGo]
    rw [h0, Int.toNat_natCast]
    congr 1
    cases q with
    | zero => rfl
    | succ q =>
      have hb : bump [(k : Int)] [(j : Int)].length [(j : Int)] = [((j + 1 : Nat) : Int)] := by
        show bump [(k : Int)] 1 [(j : Int)] = _
        rw [bump]
        simp only [List.getD_cons_zero]
        rw [if_pos (by omega)]
        simp
      rw [hb, movedGo_diag nums n m k (q + 1) (j + 1) (by omega)]
      apply List.map_congr_left
      intro i _
      simp only [Function.comp]
      rw [show j + 1 + i = j + (i + 1) by omega]

/-- The diagonal. -/
def diag (nums : List Int) (m k : Nat) : List Int := (List.range k).map fun i => nums.getD (i * m + i) 0
theorem axes_diag (n m : Nat) (hn : n < 20) (hm : m < 20) (l : List Int) (hl : l.length = n * m) (h255 : ∀ x ∈ l, 0 ≤ x ∧ x ≤ 255) :
    axesV (.mk 1 [2] [0, 0] []) (.mk 1 [(n : Int), (m : Int)] l []) = (.mk 1 [((min n m : Nat) : Int)] (diag l m (min n m)) [], 0) := by
  have hr := right_mat n m hn hm l hl h255
  have hw : wrongV (.mk 1 [2] [0, 0] []) (.mk 1 [(n : Int), (m : Int)] l []) = 0 := by
    have hx : rightV (.mk 1 [2] [0, 0] []) = 0 := by rfl
    unfold wrongV
    rw [if_neg (by rintro (h | h); exact h hx; exact h hr)]
    rfl
  have hs := small1 ⟨min n m, by omega⟩
  simp only at hs
  have h1 : axesV (.mk 1 [2] [0, 0] []) (.mk 1 [(n : Int), (m : Int)] l []) = if ((dimsGo [0, 0] [(n : Int), (m : Int)] []).any fun d => -1 == d) = true then (Arr.zero, 17) else (movedV [0, 0] (.mk 1 [(n : Int), (m : Int)] l []) (dimsGo [0, 0] [(n : Int), (m : Int)] []), 0) := by
    unfold axesV
    rw [if_neg (by simp [hw])]
  rw [h1, dims_diag, if_neg (by simp)]
  have h2 := movedGo_diag l n m (min n m) (min n m) 0 (by omega)
  rw [show movedV [0, 0] (.mk 1 [(n : Int), (m : Int)] l []) [((min n m : Nat) : Int)] = .mk 1 [((min n m : Nat) : Int)] (movedGo (fun t => l.getD (atGo [0, 0] [(n : Int), (m : Int)] t 0).toNat 0) [((min n m : Nat) : Int)] (shapeSize [((min n m : Nat) : Int)]).toNat [((0 : Nat) : Int)]) [] from rfl, hs, Int.toNat_natCast, h2]
  simp [diag]
theorem diag_length (l : List Int) (m k : Nat) : (diag l m k).length = k := by simp [diag]
theorem diag_getD (l : List Int) (m k i : Nat) (h : i < k) : (diag l m k).getD i 0 = l.getD (i * m + i) 0 := by simp [diag, List.getD, h]
end Go.Proofs.Ytcmnlnamgnbemaa
