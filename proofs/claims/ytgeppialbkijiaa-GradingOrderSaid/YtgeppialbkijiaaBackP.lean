/-
  PLAIN LAWS for CellBack and CellKeeps: parts of a right array are right; an array padded to its own shape is itself; joining the cells yields the array.
-/
import Derived.Test.YtgeppialbkijiaaCellP
import Derived.Test.YtgeppialbkijiaaCCells
import Derived.Test.YtgeppialbkijiaaFew
namespace Go.Proofs.Ytgeppialbkijiaa
set_option linter.unusedSimpArgs false
set_option linter.unusedVariables false
open Go.RowKit

theorem visit_nn (x : Arr) : 0 ≤ (visitV x).2.1 ∧ 0 ≤ (visitV x).2.2 := by
  have h := visitV_bd (SizeOf.sizeOf x + 1) x (by omega)
  omega
theorem items_mono : ∀ (l : List Arr) (d wt d0 wt0 d' w' : Int), d0 ≤ d → wt0 ≤ wt → itemsV l d wt = some (d', w') → ∃ a b, itemsV l d0 wt0 = some (a, b) ∧ a ≤ d' ∧ b ≤ w'
  | [], d, wt, d0, wt0, d', w', h1, h2, h => by
    rw [itemsV] at h
    cases h
    exact ⟨d0, wt0, by rw [itemsV], h1, h2⟩
  | x :: r, d, wt, d0, wt0, d', w', h1, h2, h => by
    rw [itemsV] at h
    rw [itemsV]
    split at h
    · cases h
    · rename_i hx
      rw [if_neg hx]
      exact items_mono r _ _ _ _ d' w' (by omega) (by omega) h
theorem items_grow : ∀ (l : List Arr) (d wt d' w' : Int), wt ≤ 262145 → itemsV l d wt = some (d', w') → d ≤ d' ∧ wt ≤ w'
  | [], d, wt, d', w', _, h => by
    rw [itemsV] at h
    cases h
    exact ⟨Int.le_refl _, Int.le_refl _⟩
  | x :: r, d, wt, d', w', hw, h => by
    rw [itemsV] at h
    split at h
    · cases h
    · have hn := visit_nn x
      obtain ⟨h1, h2⟩ := items_grow r _ _ d' w' (by omega) h
      omega
theorem items_app : ∀ (l1 l2 : List Arr) (d wt d' w' : Int), itemsV (l1 ++ l2) d wt = some (d', w') → ∃ a b, itemsV l1 d wt = some (a, b) ∧ itemsV l2 a b = some (d', w')
  | [], l2, d, wt, d', w', h => ⟨d, wt, by rw [itemsV], h⟩
  | x :: r, l2, d, wt, d', w', h => by
    rw [List.cons_append, itemsV] at h
    rw [itemsV]
    split at h
    · cases h
    · rename_i hx
      rw [if_neg hx]
      exact items_app r l2 _ _ d' w' h
theorem items_cap : ∀ (l : List Arr) (d wt d' w' : Int), wt ≤ 262145 → itemsV l d wt = some (d', w') → w' ≤ 262145
  | [], d, wt, d', w', hw, h => by
    rw [itemsV] at h
    cases h
    exact hw
  | x :: r, d, wt, d', w', hw, h => by
    rw [itemsV] at h
    split at h
    · cases h
    · exact items_cap r _ _ d' w' (by omega) h
/-- A part of the items. -/
theorem items_part {l : List Arr} {wt d' w' : Int} (a z : Nat) (wt0 : Int) (h0 : 0 ≤ wt0) (hwt : wt0 ≤ wt) (hw : wt ≤ 262145) (h : itemsV l 0 wt = some (d', w')) : ∃ d2 w2, itemsV ((l.drop a).take z) 0 wt0 = some (d2, w2) ∧ d2 ≤ d' ∧ w2 ≤ w' := by
  have h1 : itemsV (l.take a ++ ((l.drop a).take z ++ (l.drop a).drop z)) 0 wt = some (d', w') := by rw [List.take_append_drop, List.take_append_drop]; exact h
  obtain ⟨a1, b1, h2, h3⟩ := items_app _ _ _ _ _ _ h1
  obtain ⟨a2, b2, h4, h5⟩ := items_app _ _ _ _ _ _ h3
  obtain ⟨g1, g2⟩ := items_grow _ _ _ _ _ hw h2
  have c1 := items_cap _ _ _ _ _ hw h2
  have c2 := items_cap _ _ _ _ _ c1 h4
  obtain ⟨g3, g4⟩ := items_grow _ _ _ _ _ c2 h5
  obtain ⟨a3, b3, h6, h7, h8⟩ := items_mono _ _ _ 0 wt0 _ _ g1 (by omega) h4
  exact ⟨a3, b3, h6, by omega, by omega⟩
theorem right_inv {k : Int} {s n : List Int} {it : List Arr} (h : rightV (.mk k s n it) = 0) : n.any (badNum k) = false ∧ ∃ d w, itemsV it 0 ((n.length : Int) + it.length) = some (d, w) ∧ d ≤ 16 ∧ w ≤ 262144 := by
  unfold rightV at h
  rw [visitV] at h
  split at h
  · rename_i h1; exact absurd h h1
  · split at h
    · cases h
    · rename_i hb
      refine ⟨by simpa using hb, ?_⟩
      split at h
      · cases h
      · rename_i d wt he
        split at h
        · cases h
        · exact ⟨d, wt, he, by omega, by omega⟩
theorem right_mk {k : Int} {s n : List Int} {it : List Arr} {d w : Int} (hk : k = 1 ∨ k = 2 ∨ k = 3) (hs : shapeRight s = true) (hn : k ≠ 3 → it = [] ∧ (n.length : Int) = shapeSize s) (hi : k = 3 → n = [] ∧ (it.length : Int) = shapeSize s) (hb : n.any (badNum k) = false)
    (hit : itemsV it 0 ((n.length : Int) + it.length) = some (d, w)) (hd : d ≤ 16) (hw : w ≤ 262144) : rightV (.mk k s n it) = 0 := by
  have h8 := shapeRight_go hs
  have hneg : s.any isNeg = false := by
    rw [List.any_eq_false]
    intro x hx
    have := (rightGo_nonneg s 1 h8.1 x hx).1
    simp [isNeg]; omega
  have hf : formV (.mk k s n it) = 0 := by
    unfold formV
    dsimp only
    by_cases h3 : k = 3
    · obtain ⟨h1, h2⟩ := hi h3
      rw [if_pos h3, formOf, if_neg (by omega), if_neg (by omega), hneg, if_neg (by simp), hs, if_neg (by simp), h2]
      simp [h1]
    · obtain ⟨h1, h2⟩ := hn h3
      rw [if_neg h3, formOf, if_neg (by omega), if_neg (by omega), hneg, if_neg (by simp), hs, if_neg (by simp), h2]
      simp [h1]
  unfold rightV
  rw [visitV, if_neg (by rw [hf]; simp), if_neg (by rw [hb]; simp), hit]
  dsimp only
  rw [if_neg (by omega)]
/-- A part of a right array. -/
theorem part_right {k : Int} {s n : List Int} {it : List Arr} (h : rightV (.mk k s n it) = 0) (a z : Nat) (t : List Int) (ht : shapeRight t = true) (hz : shapeSize t = z) (hn : k ≠ 3 → a + z ≤ n.length) (hi : k = 3 → a + z ≤ it.length) : rightV (partV (.mk k s n it) a z t) = 0 := by
  obtain ⟨hk, h8, hr, hn3, hi3⟩ := right_parts h
  obtain ⟨hb, d, w, hit, hd, hw⟩ := right_inv h
  unfold partV
  by_cases h3 : k = 3
  · have hil := hi h3
    simp only [if_pos h3]
    have hs := shapeSize_hi s
    obtain ⟨e1, e2⟩ := hi3 h3
    obtain ⟨d2, w2, g1, g2, g3⟩ := items_part a z (((([] : List Int).length : Int)) + ((it.drop a).take z).length) (by omega) (by simp; omega) (by rw [e1]; simp; omega) hit
    refine right_mk hk ht (fun h => absurd h3 h) (fun _ => ⟨rfl, ?_⟩) rfl g1 (by omega) (by omega)
    rw [hz, List.length_take, List.length_drop]; omega
  · have hnl := hn h3
    simp only [if_neg h3]
    refine right_mk hk ht (fun _ => ⟨rfl, ?_⟩) (fun h => absurd h h3) ?_ (d := 0) (w := (((n.drop a).take z).length : Int) + (([] : List Arr).length : Int)) (by rw [itemsV]) (by omega) ?_
    · rw [hz, List.length_take, List.length_drop]; omega
    · rw [List.any_eq_false] at hb ⊢
      exact fun x hx => hb x (List.mem_of_mem_drop (List.mem_of_mem_take hx))
    · have hs := shapeSize_hi s
      have := (hn3 h3).2
      simp only [List.length_take, List.length_drop, List.length_nil]
      omega
theorem range_getD {α : Type} (l : List α) (d : α) : (List.range l.length).map (fun i => l.getD i d) = l := by
  apply List.ext_getElem (by simp)
  intro i h1 h2
  simp [List.getD, h2]
/-- An array padded to its own shape is itself. -/
theorem padV_self {x : Arr} (h : rightV x = 0) : padV x x.sh = x := by
  obtain ⟨k, s, n, it⟩ := x
  obtain ⟨hk, h8, hr, hn3, hi3⟩ := right_parts h
  have hs : shapeRight s = true := by simp only [shapeRight, Bool.and_eq_true, decide_eq_true_eq]; exact ⟨h8, hr⟩
  simp only [Arr.sh, padV]
  rw [leadV_self, padL_self _ _ _ hs, padL_self _ _ _ hs]
  by_cases h3 : k = 3
  · obtain ⟨h1, h2⟩ := hi3 h3
    rw [if_pos h3, if_pos h3, ← h2, Int.toNat_natCast, range_getD, h1]
  · obtain ⟨h1, h2⟩ := hn3 h3
    rw [if_neg h3, if_neg h3, ← h2, Int.toNat_natCast, range_getD, h1]
theorem chunks {α : Type} (l : List α) (z : Nat) : ∀ (c : Nat), (List.range c).flatMap (fun i => (l.drop (i * z)).take z) = l.take (c * z)
  | 0 => by simp
  | c + 1 => by
    rw [List.range_succ, List.flatMap_append, chunks l z c, Nat.succ_mul, List.take_add]
    simp
theorem zipMax_le : ∀ (a b : List Int), a.length = b.length → (∀ j, j < a.length → a.getD j 0 ≤ b.getD j 0) → zipMax a b = b
  | [], [], _, _ => rfl
  | [], _ :: _, h, _ => by simp at h
  | _ :: _, [], h, _ => by simp at h
  | a :: r, b :: q, h, hj => by
    have h0 := hj 0 (by simp)
    simp only [List.getD_cons_zero] at h0
    rw [zipMax, zipMax_le r q (by simpa using h) (fun j h' => by simpa using hj (j + 1) (by simpa using h'))]
    congr 1
    split <;> omega
theorem rankMax_same {L : Nat} : ∀ (l : List Arr) (m : Nat), m ≤ L → (∀ x ∈ l, x.sh.length = L) → (m = L ∨ l ≠ []) → rankMax m l = L
  | [], m, _, _, h => by rcases h with h | h; exact h; exact absurd rfl h
  | x :: r, m, hm, hl, _ => by
    rw [rankMax, hl x (by simp)]
    exact rankMax_same r _ (by split <;> omega) (fun y hy => hl y (by simp [hy])) (.inl (by split <;> omega))
theorem commonGo_same {t : List Int} : ∀ (l : List Arr) (o : List Int), o.length = t.length → (∀ j, j < o.length → o.getD j 0 ≤ t.getD j 0) → (∀ x ∈ l, x.sh = t) → (o = t ∨ l ≠ []) → commonGo t.length o l = t
  | [], o, _, _, _, h => by rcases h with h | h; exact h; exact absurd rfl h
  | x :: r, o, ho, hj, hl, _ => by
    rw [commonGo, hl x (by simp), leadV_self, zipMax_le o t ho hj]
    exact commonGo_same r t rfl (fun j _ => Int.le_refl _) (fun y hy => hl y (by simp [hy])) (.inl rfl)
theorem commonV_same {l : List Arr} {t : List Int} (hl : ∀ x ∈ l, x.sh = t) (hne : l ≠ []) (ht : ∀ d ∈ t, 0 ≤ d) : commonV l = t := by
  unfold commonV
  rw [rankMax_same l 0 (Nat.zero_le _) (fun x hx => by rw [hl x hx]) (.inr hne)]
  refine commonGo_same l _ (by simp) (fun j hj => ?_) hl (.inr hne)
  have h2 : j < t.length := by simpa using hj
  have h3 := ht (t.getD j 0) (by simp [List.getD, h2])
  simpa [List.getD, h2] using h3
theorem size_take_pos {s : List Int} (h : rightGo 1 s = true) (h8 : s.length ≤ 8) (k : Nat) : (shapeSize (s.take k) = 0 ↔ (0 : Int) ∈ s.take k) := by
  have h1 := rightGo_take s 1 k h
  have h2 : (s.take k).length ≤ 8 := by rw [List.length_take]; omega
  rw [size_prodA h1 h2]
  have h0 := prodA_nonneg _ 1 (by omega) h1
  constructor
  · intro he
    refine Classical.byContradiction fun hm => ?_
    have hp : Pos (s.take k) := fun j hj => by
      have hmem : (s.take k).getD j 0 ∈ s.take k := by simp only [List.getD, hj, List.getElem?_eq_getElem, Option.getD_some]; exact List.getElem_mem hj
      have h4 := (rightGo_nonneg _ 1 h1 _ hmem).1
      have h5 : (s.take k).getD j 0 ≠ 0 := fun e => hm (by rw [← e]; exact hmem)
      omega
    rw [prodA_pos_pp hp] at he
    have := pp_pos _ hp
    omega
  · intro hm
    rw [prodA_vol, if_pos]
    rw [List.any_eq_true]
    exact ⟨0, hm, rfl⟩

/-- The cells of a right array: f axes of frame, c cells of z elements. -/
structure CellsOk (x : Arr) (k : Int) (f c z : Nat) : Prop where
  hf : f ≤ x.sh.length
  fr : frameV x k = x.sh.take f
  rk : (f : Int) + rankV k x.sh.length = x.sh.length
  ce : cellsV x k = (List.range c).map fun i => partV x (i * z) z (x.sh.drop f)
  sc : shapeSize (x.sh.take f) = c
  sz : shapeSize (x.sh.drop f) = z
  nn : x.k ≠ 3 → x.it = [] ∧ x.n.length = c * z
  ii : x.k = 3 → x.n = [] ∧ x.it.length = c * z
theorem cells_ok {x : Arr} (h : rightV x = 0) (k : Int) : ∃ f c z, CellsOk x k f c z := by
  obtain ⟨kx, s, n, it⟩ := x
  obtain ⟨hk, h8, hr, hn3, hi3⟩ := right_parts h
  have hb := rankV_bd k s.length (by omega)
  obtain ⟨hs1, hs2, hs3, hs4, hs5⟩ := size_split hr h8 (s.length - (rankV k s.length).toNat)
  refine ⟨s.length - (rankV k s.length).toNat, (shapeSize (s.take (s.length - (rankV k s.length).toNat))).toNat, (shapeSize (s.drop (s.length - (rankV k s.length).toNat))).toNat, ?_, ?_, ?_, ?_, ?_, ?_, ?_, ?_⟩
  · simp only [Arr.sh]; omega
  · simp only [frameV, Arr.sh, h]; simp
  · simp only [Arr.sh]; omega
  · simp only [cellsV, Arr.sh, h]; simp
  · simp only [Arr.sh]; omega
  · simp only [Arr.sh]; omega
  · intro h3
    obtain ⟨e1, e2⟩ := hn3 h3
    refine ⟨e1, ?_⟩
    simp only [Arr.n]
    have : ((n.length : Nat) : Int) = (((shapeSize (s.take (s.length - (rankV k s.length).toNat))).toNat * (shapeSize (s.drop (s.length - (rankV k s.length).toNat))).toNat : Nat) : Int) := by
      rw [e2, hs1, Int.natCast_mul, Int.toNat_of_nonneg hs2, Int.toNat_of_nonneg hs4]
    exact_mod_cast this
  · intro h3
    obtain ⟨e1, e2⟩ := hi3 h3
    refine ⟨e1, ?_⟩
    simp only [Arr.it]
    have : ((it.length : Nat) : Int) = (((shapeSize (s.take (s.length - (rankV k s.length).toNat))).toNat * (shapeSize (s.drop (s.length - (rankV k s.length).toNat))).toNat : Nat) : Int) := by
      rw [e2, hs1, Int.natCast_mul, Int.toNat_of_nonneg hs2, Int.toNat_of_nonneg hs4]
    exact_mod_cast this
theorem cell_facts {x : Arr} {k : Int} {f c z : Nat} (h : rightV x = 0) (o : CellsOk x k f c z) {i : Nat} (hi : i < c) : rightV (partV x (i * z) z (x.sh.drop f)) = 0 ∧ (partV x (i * z) z (x.sh.drop f)).n.length + (partV x (i * z) z (x.sh.drop f)).it.length = z ∧ (partV x (i * z) z (x.sh.drop f)).sh = x.sh.drop f ∧ (partV x (i * z) z (x.sh.drop f)).k = x.k := by
  obtain ⟨kx, s, n, it⟩ := x
  obtain ⟨hk, h8, hr, hn3, hi3⟩ := right_parts h
  have hle : i * z + z ≤ c * z := by
    have := Nat.mul_le_mul_right z (show i + 1 ≤ c from hi)
    rwa [Nat.succ_mul] at this
  have ho1 := o.nn
  have ho2 := o.ii
  simp only [Arr.k, Arr.n, Arr.it] at ho1 ho2
  have ht : shapeRight (s.drop f) = true := by simp only [shapeRight, Bool.and_eq_true, decide_eq_true_eq]; exact ⟨by rw [List.length_drop]; omega, rightGo_drop s f hr⟩
  refine ⟨part_right h (i * z) z _ ht o.sz (fun h3 => by rw [(ho1 h3).2]; exact hle) (fun h3 => by rw [(ho2 h3).2]; exact hle), ?_, rfl, rfl⟩
  simp only [partV, Arr.sh, Arr.n, Arr.it]
  by_cases h3 : kx = 3
  · have := (ho2 h3).2
    rw [if_pos h3, if_pos h3]
    simp only [List.length_nil, List.length_take, List.length_drop]; omega
  · have := (ho1 h3).2
    rw [if_neg h3, if_neg h3]
    simp only [List.length_nil, List.length_take, List.length_drop]; omega
/-- THE LAW: joining the cells yields the array. -/
theorem join_back {x : Arr} {k : Int} {f c z : Nat} (h : rightV x = 0) (o : CellsOk x k f c z) (hc : 0 < c) (b : Arr) : joinV (frameV x k) (cellsV x k) b = (x, 0) := by
  have hcf := fun i (hi : i < c) => cell_facts h o hi
  rw [o.fr, o.ce]
  obtain ⟨kx, s, n, it⟩ := x
  obtain ⟨hk, h8, hr, hn3, hi3⟩ := right_parts h
  have ho1 := o.nn
  have ho2 := o.ii
  simp only [Arr.k, Arr.n, Arr.it, Arr.sh] at ho1 ho2 hcf ⊢
  have hsc := o.sc
  simp only [Arr.sh] at hsc
  generalize hl : ((List.range c).map fun i => partV (.mk kx s n it) (i * z) z (s.drop f)) = l
  have hmem : ∀ y ∈ l, ∃ i, i < c ∧ y = partV (.mk kx s n it) (i * z) z (s.drop f) := fun y hy => by
    rw [← hl] at hy
    obtain ⟨i, hi, e⟩ := List.mem_map.1 hy
    exact ⟨i, List.mem_range.1 hi, e.symm⟩
  have hll : l.length = c := by rw [← hl]; simp
  have hne : l ≠ [] := fun e => by rw [e] at hll; simp at hll; omega
  have hsr : shapeRight (s.take f) = true := by simp only [shapeRight, Bool.and_eq_true, decide_eq_true_eq]; exact ⟨by rw [List.length_take]; omega, rightGo_take s 1 f hr⟩
  have hsS : shapeRight s = true := by simp only [shapeRight, Bool.and_eq_true, decide_eq_true_eq]; exact ⟨h8, hr⟩
  have hra : ∀ y ∈ l, rightV y = 0 := fun y hy => by obtain ⟨i, hi, rfl⟩ := hmem y hy; exact (hcf i hi).1
  have hsh : ∀ y ∈ l, y.sh = s.drop f := fun y hy => by obtain ⟨i, hi, rfl⟩ := hmem y hy; exact (hcf i hi).2.2.1
  have hkk : ∀ y ∈ l, y.k = kx := fun y hy => by obtain ⟨i, hi, rfl⟩ := hmem y hy; exact (hcf i hi).2.2.2
  have hcm : commonV l = s.drop f := commonV_same hsh hne (fun d hd => (rightGo_nonneg s 1 hr d (List.mem_of_mem_drop hd)).1)
  have hhk : (l.headD default).k = kx := by
    cases l with
    | nil => exact absurd rfl hne
    | cons y r => exact hkk y (by simp)
  have hpad : ∀ y ∈ l, padV y (s.drop f) = y := fun y hy => by
    have h1 := padV_self (hra y hy)
    rwa [hsh y hy] at h1
  have hw : wrongV (s.take f) l b = 0 := by
    unfold wrongV
    rw [if_neg, if_neg, if_neg]
    · rw [Bool.not_eq_false, List.all_eq_true]
      intro y hy
      rw [hkk y hy, hhk]; simp
    · rw [Bool.not_eq_false, List.all_eq_true]
      intro y hy
      rw [hra y hy]; rfl
    · intro hcon
      rcases hcon with h1 | h1 | h1
      · rw [hsr] at h1; cases h1
      · exact h1 (by rw [hll, hsc])
      · exact hne h1.1
  have hN : (l.flatMap fun y => (padV y (s.drop f)).n) = n := by
    rw [flatMap_congr' l (g := fun y => y.n) (fun y hy => by rw [hpad y hy]), ← hl, List.flatMap_map]
    simp only [partV, Arr.n]
    by_cases h3 : kx = 3
    · simp only [if_pos h3]
      rw [(ho2 h3).1]
      exact List.flatMap_eq_nil_iff.2 fun _ _ => rfl
    · simp only [if_neg h3]
      rw [chunks, ← (ho1 h3).2, List.take_length]
  have hI : (l.flatMap fun y => (padV y (s.drop f)).it) = it := by
    rw [flatMap_congr' l (g := fun y => y.it) (fun y hy => by rw [hpad y hy]), ← hl, List.flatMap_map]
    simp only [partV, Arr.it]
    by_cases h3 : kx = 3
    · simp only [if_pos h3]
      rw [chunks, ← (ho2 h3).2, List.take_length]
    · simp only [if_neg h3]
      rw [(ho1 h3).1]
      exact List.flatMap_eq_nil_iff.2 fun _ _ => rfl
  have hj : joinedV (s.take f) l = .mk kx s n it := by
    unfold joinedV
    rw [hcm, hhk, hN, hI, List.take_append_drop]
  unfold joinV
  rw [if_neg (by rw [hw]; simp), if_neg hne, hcm, List.take_append_drop, hsS, if_neg (by simp), hj, if_pos h]
theorem cells_zero {x : Arr} {k : Int} {f c z : Nat} (h : rightV x = 0) (o : CellsOk x k f c z) : c = 0 ↔ (0 : Int) ∈ frameV x k := by
  rw [o.fr]
  have hsc := o.sc
  obtain ⟨kx, s, n, it⟩ := x
  obtain ⟨hk, h8, hr, _, _⟩ := right_parts h
  simp only [Arr.sh] at hsc ⊢
  rw [← size_take_pos hr h8 f, hsc]
  omega
end Go.Proofs.Ytgeppialbkijiaa
