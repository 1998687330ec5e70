/-
  PLAIN GROUND: the reference's transposition as a function; what its loops build.
-/
import Derived.Test.YtcmnlnamgnbemaaR02
import Derived.Test.YtcmnlnamgnbemaaAxesLaw
namespace Go.Proofs.Ytcmnlnamgnbemaa
set_option linter.unusedSimpArgs false
set_option linter.unusedVariables false

/-- The number of axes of the result. -/
def axGo : Int → List Int → Int
  | m, [] => m
  | m, a :: r => axGo (max m (a + 1)) r
theorem axGo_bd : ∀ (l : List Int) (m R : Int), 0 ≤ m → m ≤ R → (∀ a ∈ l, a < R) → 0 ≤ axGo m l ∧ axGo m l ≤ R
  | [], m, R, h0, h1, _ => ⟨h0, h1⟩
  | a :: r, m, R, h0, h1, h => by
    rw [axGo]
    have := h a (by simp)
    exact axGo_bd r _ R (by omega) (by omega) (fun x hx => h x (by simp [hx]))
theorem axGo_le : ∀ (l : List Int) (m : Int), m ≤ axGo m l
  | [], m => Int.le_refl _
  | a :: r, m => by
    rw [axGo]
    have := axGo_le r (max m (a + 1))
    omega
theorem axGo_lt : ∀ (l : List Int) (m : Int), ∀ a ∈ l, a < axGo m l
  | b :: r, m, a, h => by
    rw [axGo]
    rcases List.mem_cons.1 h with rfl | h
    · have := axGo_le r (max m (a + 1)); omega
    · exact axGo_lt r _ a h

/-- The least dimension of the axes that go to j. -/
def rdimAt (j : Int) : List Int → List Int → Int → Int
  | a :: r, f :: q, acc => rdimAt j r q (if a = j then min acc f else acc)
  | _, _, acc => acc
theorem rdimAt_nil (j : Int) (s : List Int) (acc : Int) : rdimAt j [] s acc = acc := by unfold rdimAt; rfl
theorem rdimAt_bd (j : Int) : ∀ (l s : List Int) (acc : Int), 0 ≤ acc → (∀ f ∈ s, 0 ≤ f) → 0 ≤ rdimAt j l s acc ∧ rdimAt j l s acc ≤ acc
  | [], s, acc, h, _ => by unfold rdimAt; omega
  | a :: r, [], acc, h, _ => by unfold rdimAt; omega
  | a :: r, f :: q, acc, h, hs => by
    rw [rdimAt]
    have h1 := hs f (by simp)
    have := rdimAt_bd j r q (if a = j then min acc f else acc) (by split <;> omega) (fun x hx => hs x (by simp [hx]))
    split at this <;> rename_i hh <;> simp only [hh, if_true, if_false] <;> omega
theorem rdimAt_le (j : Int) : ∀ (l s : List Int) (acc : Int) (i : Nat), 0 ≤ acc → (∀ f ∈ s, 0 ≤ f) → l.length = s.length → i < l.length → l.getD i 0 = j → rdimAt j l s acc ≤ s.getD i 0
  | [], s, acc, i, _, _, _, hi, _ => by simp at hi
  | a :: r, [], acc, i, _, _, hl, _, _ => by simp at hl
  | a :: r, f :: q, acc, 0, h, hs, hl, hi, he => by
    rw [rdimAt]
    simp only [List.getD_cons_zero] at he ⊢
    rw [if_pos he]
    have := hs f (by simp)
    have := (rdimAt_bd j r q (min acc f) (by omega) (fun x hx => hs x (by simp [hx]))).2
    omega
  | a :: r, f :: q, acc, i + 1, h, hs, hl, hi, he => by
    rw [rdimAt]
    simp only [List.getD_cons_succ] at he ⊢
    have := hs f (by simp)
    exact rdimAt_le j r q _ i (by split <;> omega) (fun x hx => hs x (by simp [hx])) (by simpa using hl) (by simpa using hi) he

/-- The result's shape; the first j places of it. -/
def rdims (l s : List Int) (ax : Nat) : List Int := (List.range ax).map fun (j : Nat) => rdimAt (j : Int) l s 65536
def fillD (l s : List Int) (ax j : Nat) : List Int := ((List.range j).map fun (j : Nat) => rdimAt (j : Int) l s 65536) ++ List.replicate (ax - j) 0
theorem fillD_length (l s : List Int) (ax j : Nat) (h : j ≤ ax) : (fillD l s ax j).length = ax := by
  simp [fillD]; omega
theorem fillD_zero (l s : List Int) (ax : Nat) : fillD l s ax 0 = List.replicate ax 0 := by simp [fillD]
theorem fillD_all (l s : List Int) (ax : Nat) : fillD l s ax ax = rdims l s ax := by simp [fillD, rdims]
theorem fillD_set (l s : List Int) (ax j : Nat) (h : j < ax) : (fillD l s ax j).set j (rdimAt (j : Int) l s 65536) = fillD l s ax (j + 1) := by
  unfold fillD
  rw [List.set_append_right _ _ (by simp), show ax - j = (ax - (j + 1)) + 1 by omega, List.replicate_succ]
  simp [List.range_succ]
theorem rdims_length (l s : List Int) (ax : Nat) : (rdims l s ax).length = ax := by simp [rdims]
theorem rdims_getD (l s : List Int) (ax j : Nat) (h : j < ax) : (rdims l s ax).getD j 0 = rdimAt (j : Int) l s 65536 := by simp [rdims, List.getD, h]

/-- The index into the array that came, for an index t of the result. -/
def umap (l t : List Int) : List Int := l.map fun a => t.getD a.toNat 0
def fillU (l t : List Int) (q : Nat) : List Int := (umap l t).take q ++ List.replicate (l.length - q) 0
theorem umap_length (l t : List Int) : (umap l t).length = l.length := by simp [umap]
theorem fillU_length (l t : List Int) (q : Nat) (h : q ≤ l.length) : (fillU l t q).length = l.length := by simp [fillU, umap_length]; omega
theorem fillU_zero (l t : List Int) : fillU l t 0 = List.replicate l.length 0 := by simp [fillU]
theorem fillU_all (l t : List Int) : fillU l t l.length = umap l t := by
  simp [fillU, List.take_of_length_le, umap_length]
theorem fillU_set (l t : List Int) (q : Nat) (h : q < l.length) : (fillU l t q).set q (t.getD (l.getD q 0).toNat 0) = fillU l t (q + 1) := by
  unfold fillU
  have h1 : ((umap l t).take q).length = q := by simp [umap_length]; omega
  rw [List.set_append_right _ _ (by omega), h1, Nat.sub_self, show l.length - q = (l.length - (q + 1)) + 1 by omega, List.replicate_succ, List.set_cons_zero]
  rw [List.take_succ_eq_append_getElem (by rw [umap_length]; exact h), List.append_assoc]
  congr 1
  simp [umap, List.getD, h]

theorem umap_within {l s t : List Int} {ax : Nat} (hl : l.length = s.length) (hr : ∀ a ∈ l, 0 ≤ a ∧ a < ax) (hs : ∀ f ∈ s, 0 ≤ f) (ht : Within (rdims l s ax) t) : Within s (umap l t) := by
  refine ⟨by rw [umap_length, hl], fun j hj => ?_⟩
  have hjl : j < l.length := by omega
  have he : (umap l t).getD j 0 = t.getD (l.getD j 0).toNat 0 := by simp [umap, List.getD, hjl]
  have hm : l.getD j 0 ∈ l := by simp [List.getD, hjl]
  have ha := hr _ hm
  have h1 := ht.2 (l.getD j 0).toNat (by rw [rdims_length]; omega)
  rw [rdims_getD _ _ _ _ (by omega), Int.toNat_of_nonneg ha.1] at h1
  have h2 := rdimAt_le (l.getD j 0) l s 65536 j (by omega) hs hl hjl rfl
  rw [he]
  omega

theorem offGo_within : ∀ (s u : List Int) (n q : Int), 0 ≤ n → n < q → rightGo q s = true → Within s u → ∃ v, offGo n s u = some v ∧ 0 ≤ v ∧ v < prodA q s
  | [], [], n, q, h0, h1, _, _ => ⟨n, rfl, h0, by rw [prodA]; exact h1⟩
  | [], _ :: _, _, _, _, _, _, h => by have := h.1; simp at this
  | _ :: _, [], _, _, _, _, _, h => by have := h.1; simp at this
  | d :: r, x :: p, n, q, h0, h1, hr, h => by
    have hx := h.2 0 (by simp)
    simp only [List.getD_cons_zero] at hx
    have hd : d ≠ 0 := by omega
    obtain ⟨a1, a2, a3, a4⟩ := rightGo_cons hr hd
    rw [offGo, if_neg (by omega), prodA, if_neg hd]
    have e1 : n * d ≤ (q - 1) * d := Int.mul_le_mul_of_nonneg_right (by omega) (by omega)
    have e2 : 0 ≤ n * d := Int.mul_nonneg h0 (by omega)
    rw [Int.sub_mul, Int.one_mul] at e1
    exact offGo_within r p _ _ (by omega) (by omega) a4 ⟨by simpa using h.1, fun j hj => by have := h.2 (j + 1) (by simpa using hj); simpa using this⟩
theorem offV_within {s u : List Int} (hr : shapeRight s = true) (h : Within s u) : (offV s u).2 = true ∧ 0 ≤ (offV s u).1 ∧ (offV s u).1 < prodA 1 s := by
  obtain ⟨v, h1, h2, h3⟩ := offGo_within s u 0 1 (by omega) (by omega) (shapeRight_go hr).1 h
  unfold offV
  rw [if_neg (by simp [hr, h.1]), h1]
  exact ⟨rfl, h2, h3⟩

/-- Where element number i of the result comes from. -/
def offAt (l s sh : List Int) (i : Nat) : Int := (offV s (umap l (idxOf sh i))).1
def transN (l s sh : List Int) (k : Int) (n : List Int) (m : Nat) : List Int := if k = 3 then [] else (List.range m).map fun i => n.getD (offAt l s sh i).toNat 0
def transI (l s sh : List Int) (k : Int) (it : List Arr) (m : Nat) : List Arr := if k = 3 then (List.range m).map fun i => it.getD (offAt l s sh i).toNat default else []
theorem transN_succ (l s sh : List Int) (k : Int) (n : List Int) (m : Nat) : transN l s sh k n (m + 1) = if k = 3 then [] else transN l s sh k n m ++ [n.getD (offAt l s sh m).toNat 0] := by
  unfold transN
  split
  · rfl
  · simp [List.range_succ]
theorem transI_succ (l s sh : List Int) (k : Int) (n : List Arr) (m : Nat) : transI l s sh k n (m + 1) = if k = 3 then transI l s sh k n m ++ [n.getD (offAt l s sh m).toNat default] else [] := by
  unfold transI
  split
  · simp [List.range_succ]
  · rfl
theorem transN_len (l s sh : List Int) (k : Int) (n : List Int) (m : Nat) : (transN l s sh k n m).length ≤ m := by
  unfold transN; split <;> simp
theorem transI_len (l s sh : List Int) (k : Int) (n : List Arr) (m : Nat) : (transI l s sh k n m).length ≤ m := by
  unfold transI; split <;> simp
/-- The transposition. -/
def transV (l : List Int) : Arr → Arr
  | .mk k s n it => .mk k (rdims l s (axGo 0 l).toNat) (transN l s (rdims l s (axGo 0 l).toNat) k n (shapeSize (rdims l s (axGo 0 l).toNat)).toNat) (transI l s (rdims l s (axGo 0 l).toNat) k it (shapeSize (rdims l s (axGo 0 l).toNat)).toNat)
end Go.Proofs.Ytcmnlnamgnbemaa
