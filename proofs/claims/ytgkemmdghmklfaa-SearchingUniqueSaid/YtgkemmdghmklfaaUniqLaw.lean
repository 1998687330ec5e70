/-
  UNIQUE, plain: what Unique keeps is right and all different, Unique keeps it as it is, and its number is that of the cells whose first place is their own. No walk.
-/
import Derived.Test.YtgkemmdghmklfaaM25B
import Derived.Test.YtgkemmdghmklfaaM25C
namespace Go.Proofs.Ytgkemmdghmklfaa
set_option linter.unusedVariables false
set_option linter.unusedSimpArgs false

theorem sub_flat {α β : Type} {f : α → List β} {K L : List α} (h : K.Sublist L) : (K.flatMap f).Sublist (L.flatMap f) := by
  induction h with
  | slnil => exact List.Sublist.refl _
  | cons a h ih => rw [List.flatMap_cons]; exact ih.trans (List.sublist_append_right _ _)
  | cons_cons a h ih => rw [List.flatMap_cons, List.flatMap_cons]; exact (List.Sublist.refl _).append ih
theorem items_sub {K L : List Arr} (h : K.Sublist L) : ∀ (d wt d0 wt0 d' w' : Int), d0 ≤ d → 0 ≤ wt0 → wt0 ≤ wt → wt ≤ 262145 → itemsV L d wt = some (d', w') → ∃ a b, itemsV K d0 wt0 = some (a, b) ∧ a ≤ d' ∧ b ≤ w' := by
  induction h with
  | slnil => intro d wt d0 wt0 d' w' h1 h2 h3 h4 h; rw [itemsV] at h ⊢; cases h; exact ⟨_, _, rfl, h1, h3⟩
  | cons x h ih =>
    intro d wt d0 wt0 d' w' h1 h2 h3 h4 h
    have hb := visitV_bd (SizeOf.sizeOf x + 1) x (by omega)
    rw [itemsV] at h
    split at h
    · cases h
    · exact ih _ _ d0 wt0 d' w' (by omega) h2 (by omega) (by omega) h
  | cons_cons x h ih =>
    intro d wt d0 wt0 d' w' h1 h2 h3 h4 h
    have hb := visitV_bd (SizeOf.sizeOf x + 1) x (by omega)
    rw [itemsV] at h ⊢
    split at h
    · cases h
    · rename_i hx
      rw [if_neg hx]
      exact ih _ _ _ _ d' w' (by omega) (by omega) (by omega) (by omega) h
theorem flat_part {α β : Type} [Inhabited α] {f : α → List β} {z : Nat} : ∀ (K : List α) (i : Nat), (∀ t ∈ K, (f t).length = z) → i < K.length → ((K.flatMap f).drop (i * z)).take z = f (K.getD i default)
  | [], _, _, h => by simp at h
  | x :: r, 0, h, _ => by
    have := h x (by simp)
    rw [List.flatMap_cons, Nat.zero_mul, List.drop_zero, List.take_left' this]
    rfl
  | x :: r, i + 1, h, hi => by
    have hx := h x (by simp)
    rw [List.flatMap_cons, Nat.succ_mul, Nat.add_comm, ← List.drop_drop, List.drop_left' hx]
    rw [flat_part r i (fun t ht => h t (by simp [ht])) (by simpa using hi)]
    rfl
theorem flat_len {α β : Type} {f : α → List β} {z : Nat} : ∀ (K : List α), (∀ t ∈ K, (f t).length = z) → (K.flatMap f).length = K.length * z
  | [], _ => by simp
  | x :: r, h => by
    rw [List.flatMap_cons, List.length_append, h x (by simp), flat_len r (fun t ht => h t (by simp [ht])), List.length_cons, Nat.succ_mul, Nat.add_comm]
theorem getD_get {L : List Arr} {i : Nat} (h : i < L.length) : L[i] = L.getD i default := by simp [List.getD, h]
theorem placeV_get {L : List Arr} {q : Arr} (h : placeV L q < L.length) : L.getD (placeV L q) default = q := by
  unfold placeV at *
  have := List.findIdx_getElem (w := h)
  rw [sameV_eq] at this
  simpa [List.getD, h] using this
theorem placeV_first {L : List Arr} {q : Arr} {i : Nat} (hi : i < L.length) (h : L.getD i default = q) : placeV L q ≤ i := by
  rcases Nat.lt_or_ge i (placeV L q) with hlt | hge
  · exfalso
    unfold placeV at hlt
    have h2 := List.not_of_lt_findIdx hlt
    have h3 : L[i] = q := by rw [← h]; simp [List.getD, hi]
    rw [h3] at h2
    exact absurd ((sameV_eq q q).2 rfl) (by simpa using h2)
  · exact hge
theorem uqL_mem (L : List Arr) : ∀ i, i ≤ L.length → (∀ t ∈ uqL L i, ∃ j, j < i ∧ L.getD j default = t) ∧ (uqL L i).Pairwise (· ≠ ·)
  | 0, _ => by simp [uqL]
  | i + 1, hi => by
    obtain ⟨h1, h2⟩ := uqL_mem L i (by omega)
    rw [uqL]
    split
    · exact ⟨fun t ht => by obtain ⟨j, hj, e⟩ := h1 t ht; exact ⟨j, by omega, e⟩, h2⟩
    · rename_i hp
      refine ⟨fun t ht => ?_, ?_⟩
      · rcases List.mem_append.1 ht with h | h
        · obtain ⟨j, hj, e⟩ := h1 t h; exact ⟨j, by omega, e⟩
        · rw [List.mem_singleton] at h; exact ⟨i, by omega, h.symm⟩
      · rw [List.pairwise_append]
        refine ⟨h2, by simp, fun a ha b hb e => ?_⟩
        rw [List.mem_singleton] at hb
        obtain ⟨j, hj, e2⟩ := h1 a ha
        have := placeV_first (L := L) (q := L.getD i default) (i := j) (by omega) (by rw [e2, e, hb])
        omega
theorem take_one {L : List Arr} {i : Nat} (hi : i < L.length) : L.take (i + 1) = L.take i ++ [L.getD i default] := by
  rw [List.take_add_one]; simp [List.getD, hi]
theorem uqL_sub (L : List Arr) : ∀ i, i ≤ L.length → (uqL L i).Sublist (L.take i)
  | 0, _ => by simp [uqL]
  | i + 1, hi => by
    rw [uqL, take_one (by omega)]
    split
    · exact (uqL_sub L i (by omega)).trans (List.sublist_append_left _ _)
    · exact (uqL_sub L i (by omega)).append (List.Sublist.refl _)
theorem uqL_diff {K : List Arr} (h : K.Pairwise (· ≠ ·)) : ∀ i, i ≤ K.length → uqL K i = K.take i
  | 0, _ => by simp [uqL]
  | i + 1, hi => by
    have hp := placeV_first (L := K) (q := K.getD i default) (i := i) (by omega) rfl
    have hg := placeV_get (L := K) (q := K.getD i default) (by omega)
    rw [uqL, take_one (by omega), if_neg, uqL_diff h i (by omega)]
    intro hlt
    have := List.pairwise_iff_getElem.1 h (placeV K (K.getD i default)) i (by omega) (by omega) hlt
    apply this
    rw [getD_get, getD_get, hg]
/-- How many of the first i numbers are their own place. -/
def eqs (l : List Int) : Nat → Nat
  | 0 => 0
  | i + 1 => if l.getD i 0 = (i : Int) then eqs l i + 1 else eqs l i
theorem eqs_le (l : List Int) : ∀ i, eqs l i ≤ i
  | 0 => Nat.le_refl _
  | i + 1 => by
    have := eqs_le l i
    rw [eqs]; split <;> omega
theorem eqs_uq (L : List Arr) : ∀ i, i ≤ L.length → eqs (L.map fun q => (placeV L q : Int)) i = (uqL L i).length
  | 0, _ => rfl
  | i + 1, hi => by
    have hp := placeV_first (L := L) (q := L.getD i default) (i := i) (by omega) rfl
    have hm : (L.map fun q => (placeV L q : Int)).getD i 0 = (placeV L (L.getD i default) : Int) := by simp [List.getD, show i < L.length by omega]
    rw [eqs, uqL, hm, eqs_uq L i (by omega)]
    by_cases h : placeV L (L.getD i default) < i
    · rw [if_pos h, if_neg (by omega)]
    · rw [if_neg h, if_pos (by omega)]; simp
theorem size_one {m : Nat} (h : m ≤ 65536) : rightGo 1 [(m : Int)] = true ∧ shapeSize [(m : Int)] = m := by
  have hg : rightGo 1 [(m : Int)] = true := by
    rw [rightGo, if_neg (by omega)]
    split
    · rfl
    · rw [if_neg (by omega)]; rfl
  refine ⟨hg, ?_⟩
  rw [size_prodA hg (by simp)]
  simp only [prodA]
  split <;> omega
theorem right_lessU {m nn : Int} {tl : List Int} (h0 : 0 ≤ m) (h1 : m ≤ nn) (hr : shapeRight (nn :: tl) = true) : shapeRight (m :: tl) = true := by
  obtain ⟨h2, h3⟩ := shapeRight_go hr
  have hb := rightGo_nonneg _ 1 h2 nn (by simp)
  have : rightGo 1 (m :: tl) = true := by
    by_cases hm : m = 0
    · rw [rightGo, if_neg (by omega), if_pos hm]
      exact rightGo_tail h2
    · obtain ⟨a1, a2, a3, a4⟩ := rightGo_cons h2 (show nn ≠ 0 by omega)
      rw [rightGo, if_neg (by omega), if_neg hm, if_neg (by omega)]
      exact rightGo_le tl _ _ (by omega) (by omega) a4
  simp [shapeRight, this]
  simpa using h3
def idF : Nat → Int → Int := fun _ i => i
/-- What the law says of Unique. -/
theorem uniq_plan {y : Arr} (he : uniqE y = 0) : ∃ (k : Int) (tl n : List Int) (it : List Arr) (fsh nums : List Int), uniqV y = .mk k (((eqs nums nums.length : Nat) : Int) :: tl) n it ∧ uniqV (uniqV y) = uniqV y ∧ uniqE (uniqV y) = 0 ∧ searchE y y = 0 ∧ searchV y y = .mk 1 fsh nums [] ∧ nums.length ≤ 65536 := by
  have hr : rightV y = 0 := by
    by_cases h : rightV y = 0
    · exact h
    · unfold uniqE at he; rw [if_pos h] at he; cases he
  obtain ⟨f, c, z, ok⟩ := cells_ok hr (-1)
  obtain ⟨hL6, hLr⟩ := cells_len hr (-1)
  have hsr : cellsV y (rankQ y) = cellsV y (-1) := by
    obtain ⟨k, s, n, it⟩ := y
    have : rankV ((rankQ (.mk k s n it) : Nat) : Int) s.length = rankV (-1) s.length := by
      simp only [rankQ, Arr.sh]
      unfold rankV
      repeat' split
      all_goals omega
    simp only [cellsV, this]
  have hsE : searchE y y = 0 := by
    unfold searchE rankQ
    rw [if_neg (by rw [hr]; simp), if_neg (by omega)]
  have hLc : (cellsV y (-1)).length = c := by rw [ok.ce]; simp
  have hcf := fun i (hi : i < c) => cell_facts hr ok hi
  have hUV : uniqV y = .mk y.k (((uqL (cellsV y (-1)) (cellsV y (-1)).length).length : Int) :: y.sh.drop 1) ((uqL (cellsV y (-1)) (cellsV y (-1)).length).flatMap Arr.n) ((uqL (cellsV y (-1)) (cellsV y (-1)).length).flatMap Arr.it) := by
    unfold uniqV; rw [if_neg (by rw [hr]; simp)]
  have hmem : ∀ t ∈ cellsV y (-1), t.k = y.k ∧ t.sh = y.sh.drop f ∧ (y.k ≠ 3 → t.it = [] ∧ t.n.length = z) ∧ (y.k = 3 → t.n = [] ∧ t.it.length = z) := fun t ht => by
    rw [ok.ce] at ht
    obtain ⟨i, hi, rfl⟩ := List.mem_map.1 ht
    obtain ⟨_, h1, h2, h3⟩ := hcf i (List.mem_range.1 hi)
    refine ⟨h3, h2, ?_, ?_⟩
    · intro hk
      obtain ⟨k, s, n, it⟩ := y
      simp only [Arr.k] at hk
      simp only [partV, if_neg hk, Arr.n, Arr.it, List.length_nil, Nat.add_zero] at h1 ⊢
      exact ⟨trivial, h1⟩
    · intro hk
      obtain ⟨k, s, n, it⟩ := y
      simp only [Arr.k] at hk
      simp only [partV, if_pos hk, Arr.n, Arr.it, List.length_nil, Nat.zero_add] at h1 ⊢
      exact ⟨trivial, h1⟩
  have hnums : searchV y y = .mk 1 (frameV y (rankQ y)) ((cellsV y (-1)).map fun q => (placeV (cellsV y (-1)) q : Int)) [] := by
    unfold searchV findNums
    rw [if_neg (by rw [hsE]; simp), hsr]
  have hflat : ((cellsV y (-1)).flatMap Arr.n) = y.n ∧ ((cellsV y (-1)).flatMap Arr.it) = y.it := by
    rw [ok.ce, List.flatMap_map, List.flatMap_map]
    have ho1 := ok.nn
    have ho2 := ok.ii
    obtain ⟨k, s, n, it⟩ := y
    simp only [Arr.k, Arr.n, Arr.it] at ho1 ho2
    by_cases h3 : k = 3
    · simp only [partV, Arr.n, Arr.it, if_pos h3]
      rw [chunks, ← (ho2 h3).2, List.take_length, (ho2 h3).1]
      exact ⟨List.flatMap_eq_nil_iff.2 fun _ _ => rfl, rfl⟩
    · simp only [partV, Arr.n, Arr.it, if_neg h3]
      rw [chunks, ← (ho1 h3).2, List.take_length, (ho1 h3).1]
      exact ⟨rfl, List.flatMap_eq_nil_iff.2 fun _ _ => rfl⟩
  have hcnt := eqs_uq (cellsV y (-1)) (cellsV y (-1)).length (Nat.le_refl _)
  obtain ⟨hkm, hkd⟩ := uqL_mem (cellsV y (-1)) (cellsV y (-1)).length (Nat.le_refl _)
  have hks := uqL_sub (cellsV y (-1)) (cellsV y (-1)).length (Nat.le_refl _)
  have hkl := uqL_len (cellsV y (-1)) (cellsV y (-1)).length
  rw [List.take_length] at hks
  have hc0 : 0 < c → 0 < (uqL (cellsV y (-1)) (cellsV y (-1)).length).length := fun h => by
    have : ∀ i, 0 < i → 0 < (uqL (cellsV y (-1)) i).length := fun i => by
      induction i with
      | zero => intro h; omega
      | succ i ih =>
        intro _
        rw [uqL]
        split
        · exact ih (by omega)
        · simp
    exact this _ (by omega)
  generalize hK : uqL (cellsV y (-1)) (cellsV y (-1)).length = K at *
  have hKm : ∀ t ∈ K, t.k = y.k ∧ t.sh = y.sh.drop f ∧ (y.k ≠ 3 → t.it = [] ∧ t.n.length = z) ∧ (y.k = 3 → t.n = [] ∧ t.it.length = z) := fun t ht => hmem t (hks.subset ht)
  have hdrop : y.sh.drop f = y.sh.drop 1 ∧ shapeSize (y.sh.drop 1) = z ∧ shapeRight ((K.length : Int) :: y.sh.drop 1) = true := by
    have hrk := ok.rk
    have hsc := ok.sc
    have hsz := ok.sz
    have hf := ok.hf
    obtain ⟨k, s, n, it⟩ := y
    obtain ⟨hk, h8, hrr, _, _⟩ := right_parts hr
    simp only [Arr.sh] at *
    cases s with
    | nil =>
      have : f = 0 := by simpa using hf
      subst this
      have e : shapeSize ([] : List Int) = 1 := by decide
      simp only [List.take_nil, List.drop_nil] at hsc hsz
      have hc1 : c = 1 := by rw [e] at hsc; omega
      have : K.length = 1 := by have := hc0 (by omega); omega
      refine ⟨rfl, hsz, ?_⟩
      rw [this]
      decide
    | cons d r =>
      have hf1 : f = 1 := by
        unfold rankV at hrk
        have hl : (0 : Int) < ((d :: r).length : Int) := by simp only [List.length_cons]; omega
        rw [if_neg (by omega), if_pos (by omega), if_neg (by omega)] at hrk
        omega
      subst hf1
      refine ⟨rfl, hsz, ?_⟩
      have hd := rightGo_nonneg _ 1 hrr d (by simp)
      have e := (size_one (m := d.toNat) (by omega)).2
      rw [Int.toNat_of_nonneg hd.1] at e
      simp only [List.take_succ_cons, List.take_zero] at hsc
      rw [e] at hsc
      have hsr2 : shapeRight (d :: r) = true := by simp only [shapeRight, Bool.and_eq_true, decide_eq_true_eq]; exact ⟨h8, hrr⟩
      refine right_lessU (nn := d) (by omega) (by omega) hsr2
  obtain ⟨hd1, hd2, hd3⟩ := hdrop
  have hz1 : shapeSize ((K.length : Int) :: y.sh.drop 1) = ((K.length * z : Nat) : Int) := by
    obtain ⟨g1, g2⟩ := shapeRight_go hd3
    have := (size_split g1 g2 1).1
    simp only [List.take_succ_cons, List.take_zero, List.drop_succ_cons, List.drop_zero] at this
    rw [this, (size_one (by omega)).2, hd2]
    simp
  have hUr : rightV (uniqV y) = 0 := by
    rw [hUV]
    have hsn : (K.flatMap Arr.n).Sublist y.n := by rw [← hflat.1]; exact sub_flat hks
    have hsi : (K.flatMap Arr.it).Sublist y.it := by rw [← hflat.2]; exact sub_flat hks
    obtain ⟨k, s, n, it⟩ := y
    obtain ⟨hk, h8, hrr, hn3, hi3⟩ := right_parts hr
    obtain ⟨hb, d, w, hit, hd, hw⟩ := right_inv hr
    have h6 := shapeSize_hi s
    simp only [Arr.sh] at hd3 hz1 ⊢
    simp only [Arr.n] at hsn
    simp only [Arr.it] at hsi
    have hln := hsn.length_le
    have hli := hsi.length_le
    have hb3 : (n.length : Int) + it.length ≤ 65536 := by
      by_cases h3 : k = 3
      · obtain ⟨e1, e2⟩ := hi3 h3; rw [e1]; simp; omega
      · obtain ⟨e1, e2⟩ := hn3 h3; rw [e1]; simp; omega
    obtain ⟨a, b, g1, g2, g3⟩ := items_sub hsi 0 _ 0 (((K.flatMap Arr.n).length : Int) + (K.flatMap Arr.it).length) d w (by omega) (by omega) (by omega) (by omega) hit
    refine right_mk hk hd3 (fun h3 => ⟨?_, ?_⟩) (fun h3 => ⟨?_, ?_⟩) ?_ g1 (by omega) (by omega)
    · rw [List.flatMap_eq_nil_iff]; exact fun t ht => ((hKm t ht).2.2.1 h3).1
    · rw [hz1, flat_len K (fun t ht => ((hKm t ht).2.2.1 h3).2)]
    · rw [List.flatMap_eq_nil_iff]; exact fun t ht => ((hKm t ht).2.2.2 h3).1
    · rw [hz1, flat_len K (fun t ht => ((hKm t ht).2.2.2 h3).2)]
    · rw [List.any_eq_false] at hb ⊢
      exact fun x hx => hb x (hsn.subset hx)
  have hUE : uniqE (uniqV y) = 0 := by unfold uniqE; rw [if_neg (by rw [hUr]; simp)]
  obtain ⟨f2, c2, z2, ok2⟩ := cells_ok hUr (-1)
  have hUK : cellsV (uniqV y) (-1) = K := by
    have hrk := ok2.rk
    have hsc := ok2.sc
    have hsz := ok2.sz
    rw [ok2.ce]
    have hUs : (uniqV y).sh = (K.length : Int) :: y.sh.drop 1 := by rw [hUV]; rfl
    rw [hUs] at hrk hsc hsz ⊢
    rw [hUV]
    have hf1 : f2 = 1 := by
      unfold rankV at hrk
      have hl : (0 : Int) < (((K.length : Int) :: y.sh.drop 1).length : Int) := by simp only [List.length_cons]; omega
      rw [if_neg (by omega), if_pos (by omega), if_neg (by omega)] at hrk
      omega
    subst hf1
    simp only [List.take_succ_cons, List.take_zero, List.drop_succ_cons, List.drop_zero] at hsc hsz ⊢
    rw [(size_one (by omega)).2] at hsc
    have hcc : c2 = K.length := by omega
    have hzz : z2 = z := by omega
    subst hcc
    subst hzz
    apply List.ext_getElem
    · simp
    · intro i h1 h2
      simp only [List.getElem_map, List.getElem_range, partV]
      have hm := hKm K[i] (List.getElem_mem h2)
      have hg : K.getD i default = K[i] := by simp [List.getD, h2]
      generalize hKi : K[i] = q at *
      obtain ⟨qk, qs, qn, qi⟩ := q
      obtain ⟨m1, m2, m3, m4⟩ := hm
      change qk = y.k at m1
      change qs = y.sh.drop f at m2
      change y.k ≠ 3 → qi = [] ∧ qn.length = z2 at m3
      change y.k = 3 → qn = [] ∧ qi.length = z2 at m4
      rw [hd1] at m2
      subst m1
      subst m2
      by_cases h3 : y.k = 3
      · rw [if_pos h3, if_pos h3, flat_part K i (fun t ht => ((hKm t ht).2.2.2 h3).2) h2, hg, (m4 h3).1]; rfl
      · rw [if_neg h3, if_neg h3, flat_part K i (fun t ht => ((hKm t ht).2.2.1 h3).2) h2, hg, (m3 h3).1]; rfl
  have hUU : uniqV (uniqV y) = uniqV y := by
    have h1 : uniqV (uniqV y) = .mk (uniqV y).k (((uqL (cellsV (uniqV y) (-1)) (cellsV (uniqV y) (-1)).length).length : Int) :: (uniqV y).sh.drop 1) ((uqL (cellsV (uniqV y) (-1)) (cellsV (uniqV y) (-1)).length).flatMap Arr.n) ((uqL (cellsV (uniqV y) (-1)) (cellsV (uniqV y) (-1)).length).flatMap Arr.it) := by
      rw [uniqV, if_neg (by rw [hUr]; simp)]
    rw [h1, hUK, uqL_diff hkd _ (Nat.le_refl _), List.take_length, hUV]
    rfl
  refine ⟨y.k, y.sh.drop 1, K.flatMap Arr.n, K.flatMap Arr.it, frameV y (rankQ y), (cellsV y (-1)).map fun q => (placeV (cellsV y (-1)) q : Int), ?_, hUU, hUE, hsE, hnums, ?_⟩
  · rw [List.length_map, hcnt]; exact hUV
  · rw [List.length_map]; exact hL6
end Go.Proofs.Ytgkemmdghmklfaa
