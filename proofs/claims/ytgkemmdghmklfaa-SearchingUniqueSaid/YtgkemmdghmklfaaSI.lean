/-
  THE WALKS of slices.swapRangeCmpFunc, rotateCmpFunc over a row of numbers of the call's own. (Printed by gen_swp.py.)
-/
import Derived.Test.YtgkemmdghmklfaaGradLaw
import Derived.Test.YtgkemmdghmklfaaSort
import Derived.BigRegion
namespace Go.Proofs.Ytgkemmdghmklfaa
set_option linter.unusedVariables false
set_option linter.unusedSimpArgs false

/-! ### Merging in place, plain -/
/-- Places p and q exchanged. -/
def swp (L : List Int) (p q : Nat) : List Int := (L.set p (L.getD q 0)).set q (L.getD p 0)
theorem swp_length (L : List Int) (p q : Nat) : (swp L p q).length = L.length := by simp [swp]
theorem getD_mid (A B : List Int) (x : Int) : (A ++ x :: B).getD A.length 0 = x := by simp [List.getD]
theorem set_mid (A B : List Int) (x y : Int) : (A ++ x :: B).set A.length y = A ++ y :: B := by simp
/-- Two places of a list, exchanged. -/
theorem swp_mid (A B C : List Int) (x y : Int) {p q : Nat} (hp : p = A.length) (hq : q = A.length + 1 + B.length) : swp (A ++ x :: (B ++ y :: C)) p q = A ++ y :: (B ++ x :: C) := by
  subst hp
  have e : ∀ z : Int, A ++ z :: (B ++ y :: C) = (A ++ z :: B) ++ y :: C := fun z => by simp
  have e2 : ∀ z u : Int, A ++ z :: (B ++ u :: C) = (A ++ z :: B) ++ u :: C := fun z u => by simp
  have hq2 : ∀ z : Int, q = (A ++ z :: B).length := fun z => by simp; omega
  unfold swp
  have g1 : (A ++ x :: (B ++ y :: C)).getD q 0 = y := by rw [e, hq2 x]; exact getD_mid _ _ _
  rw [g1, getD_mid, set_mid, e2 y y, hq2 y, set_mid]
  simp
theorem swp_comm (L : List Int) (p q : Nat) : swp L p q = swp L q p := by
  unfold swp
  by_cases h : p = q
  · rw [h]
  · exact List.set_comm _ _ h

/-- Sorted by c, equal ones by their numbers. -/
def Srt (c : Int → Int → Int) (X : List Int) : Prop := X.Pairwise (Bef c id)
/-- There is one list of these in order. -/
theorem srt_one {c : Int → Int → Int} (h : POrd c) {X Y : List Int} (hp : X.Perm Y) (hx : Srt c X) (hy : Srt c Y) : X = Y :=
  List.Perm.eq_of_pairwise (le := Bef c id) (fun a b _ _ x y => (x.asymm h y).elim) hx hy hp
/-- The numbers of X are less than those of Y. -/
def Low (X Y : List Int) : Prop := ∀ x ∈ X, ∀ y ∈ Y, x < y
theorem bef_of_le {c : Int → Int → Int} {x y : Int} (h : c x y ≤ 0) (hl : x < y) : Bef c id x y := by
  by_cases hz : c x y = 0
  · exact .inr ⟨hz, hl⟩
  · exact .inl (by omega)
theorem bef_of_gt {c : Int → Int → Int} (h : POrd c) {x y : Int} (hc : 0 < c x y) : Bef c id y x := .inl (by have := h.neg x y; omega)
theorem mrg_srt {c : Int → Int → Int} (h : POrd c) {X Y : List Int} (hx : Srt c X) (hy : Srt c Y) (hl : Low X Y) : Srt c (mrg c X Y) :=
  mrg_pw (fun x y z a b => a.trans h b) _ _ _ (Nat.le_refl _) hx hy fun x hx y hy => ⟨fun h1 => bef_of_le h1 (hl x hx y hy), fun h1 => bef_of_gt h h1⟩
theorem mrg_one {c : Int → Int → Int} (h : POrd c) {X Y Z : List Int} (hx : Srt c X) (hy : Srt c Y) (hl : Low X Y) (hp : Z.Perm (X ++ Y)) (hz : Srt c Z) : Z = mrg c X Y :=
  srt_one h (hp.trans (mrg_perm c _ X Y (Nat.le_refl _)).symm) hz (mrg_srt h hx hy hl)
theorem mrg_length (c : Int → Int → Int) (X Y : List Int) : (mrg c X Y).length = X.length + Y.length := by rw [(mrg_perm c _ X Y (Nat.le_refl _)).length_eq, List.length_append]
theorem mrg_mem {c : Int → Int → Int} {X Y : List Int} {z : Int} : z ∈ mrg c X Y ↔ z ∈ X ∨ z ∈ Y := by rw [(mrg_perm c _ X Y (Nat.le_refl _)).mem_iff, List.mem_append]
/-- THE LAW of symMerge: merged half by half. -/
theorem mrg_halves {c : Int → Int → Int} (h : POrd c) {X1 X2 Y1 Y2 : List Int} (hx : Srt c (X1 ++ X2)) (hy : Srt c (Y1 ++ Y2)) (hl : Low (X1 ++ X2) (Y1 ++ Y2))
    (h1 : ∀ x ∈ X1, ∀ y ∈ Y2, Bef c id x y) (h2 : ∀ y ∈ Y1, ∀ x ∈ X2, Bef c id y x) : mrg c X1 Y1 ++ mrg c X2 Y2 = mrg c (X1 ++ X2) (Y1 ++ Y2) := by
  have hx' := List.pairwise_append.1 hx
  have hy' := List.pairwise_append.1 hy
  refine mrg_one h hx hy hl ?_ ?_
  · have p1 := mrg_perm c _ X1 Y1 (Nat.le_refl _)
    have p2 := mrg_perm c _ X2 Y2 (Nat.le_refl _)
    refine (p1.append p2).trans ?_
    rw [List.append_assoc, List.append_assoc]
    refine List.Perm.append_left X1 ?_
    rw [← List.append_assoc, ← List.append_assoc]
    exact List.Perm.append_right Y2 List.perm_append_comm
  · refine List.pairwise_append.2 ⟨mrg_srt h hx'.1 hy'.1 fun x hx y hy => hl x (by simp [hx]) y (by simp [hy]), mrg_srt h hx'.2.1 hy'.2.1 fun x hx y hy => hl x (by simp [hx]) y (by simp [hy]), fun a ha b hb => ?_⟩
    rcases mrg_mem.1 ha with ha | ha <;> rcases mrg_mem.1 hb with hb | hb
    · exact hx'.2.2 a ha b hb
    · exact h1 a ha b hb
    · exact h2 a ha b hb
    · exact hy'.2.2 a ha b hb
theorem mrg_nil_left (c : Int → Int → Int) (Y : List Int) : mrg c [] Y = Y := mrg_nil_l c Y
/-- One element before a list. -/
theorem mrg_one_left {c : Int → Int → Int} (h : POrd c) {x : Int} {Y1 Y2 : List Int} (hy : Srt c (Y1 ++ Y2)) (hl : Low [x] (Y1 ++ Y2)) (h1 : ∀ y ∈ Y1, Bef c id y x) (h2 : ∀ y ∈ Y2, Bef c id x y) : Y1 ++ x :: Y2 = mrg c [x] (Y1 ++ Y2) := by
  have hy' := List.pairwise_append.1 hy
  refine mrg_one h (List.pairwise_singleton _ _) hy hl ?_ ?_
  · exact List.perm_middle
  · refine List.pairwise_append.2 ⟨hy'.1, List.pairwise_cons.2 ⟨h2, hy'.2.1⟩, fun a ha b hb => ?_⟩
    rcases List.mem_cons.1 hb with rfl | hb
    · exact h1 a ha
    · exact hy'.2.2 a ha b hb
/-- One element behind a list. -/
theorem mrg_one_right {c : Int → Int → Int} (h : POrd c) {y : Int} {X1 X2 : List Int} (hx : Srt c (X1 ++ X2)) (hl : Low (X1 ++ X2) [y]) (h1 : ∀ x ∈ X1, Bef c id x y) (h2 : ∀ x ∈ X2, Bef c id y x) : X1 ++ y :: X2 = mrg c (X1 ++ X2) [y] := by
  have hx' := List.pairwise_append.1 hx
  refine mrg_one h hx (List.pairwise_singleton _ _) hl ?_ ?_
  · exact List.perm_middle.trans (List.perm_append_singleton y (X1 ++ X2)).symm
  · refine List.pairwise_append.2 ⟨hx'.1, List.pairwise_cons.2 ⟨h2, hx'.2.1⟩, fun a ha b hb => ?_⟩
    rcases List.mem_cons.1 hb with rfl | hb
    · exact h1 a ha
    · exact hx'.2.2 a ha b hb
/-- In a list in order, what stands ahead is before what stands behind; a place tells all those ahead (behind). -/
theorem srt_get {c : Int → Int → Int} {X : List Int} (hx : Srt c X) {i j : Nat} (hi : i < j) (hj : j < X.length) : Bef c id (X.getD i 0) (X.getD j 0) := by
  have h := List.pairwise_iff_getElem.1 hx i j (by omega) hj hi
  have e1 : X.getD i 0 = X[i]'(by omega) := by simp [List.getD, show i < X.length by omega]
  have e2 : X.getD j 0 = X[j] := by simp [List.getD, hj]
  rw [e1, e2]; exact h
theorem take_mem_getD {X : List Int} {k : Nat} {x : Int} (h : x ∈ X.take k) : ∃ i, i < k ∧ i < X.length ∧ X.getD i 0 = x := by
  obtain ⟨i, hi, e⟩ := getD_of_mem h
  rw [List.length_take] at hi
  exact ⟨i, by omega, by omega, by rw [← e]; simp [List.getD, show i < k by omega]⟩
theorem drop_mem_getD {X : List Int} {k : Nat} {x : Int} (h : x ∈ X.drop k) : ∃ i, k ≤ i ∧ i < X.length ∧ X.getD i 0 = x := by
  obtain ⟨i, hi, e⟩ := getD_of_mem h
  rw [List.length_drop] at hi
  exact ⟨k + i, by omega, by omega, by rw [← e]; simp [List.getD]⟩

/-! ### Insertion sort of a block -/
theorem mrg_last {c : Int → Int → Int} (h : POrd c) {X0 : List Int} {x y : Int} (hx : Srt c (X0 ++ [y])) (hl : Low (X0 ++ [y]) [x]) (hc : c x y < 0) : mrg c (X0 ++ [y]) [x] = mrg c X0 [x] ++ [y] := by
  have h1 := mrg_halves h (X1 := X0) (X2 := [y]) (Y1 := [x]) (Y2 := []) hx (by simp [Srt]) (by simpa using hl) (by simp) (fun a ha b hb => by
    rw [List.mem_singleton.1 ha, List.mem_singleton.1 hb]; exact .inl hc)
  rw [mrg_nil_r] at h1
  simpa using h1.symm
theorem mrg_app {c : Int → Int → Int} (h : POrd c) {X : List Int} {x : Int} (hx : Srt c X) (hl : Low X [x]) (hc : ∀ y ∈ X, c y x ≤ 0) : mrg c X [x] = X ++ [x] := by
  have h1 := mrg_one_right h (X1 := X) (X2 := []) (y := x) (by simpa using hx) (by simpa using hl) (fun y hy => bef_of_le (hc y hy) (hl y hy x (by simp))) (by simp)
  simpa using h1.symm

/-! ### Blocks of indices -/
def rng (p q : Nat) : List Int := (List.range (q - p)).map fun (i : Nat) => ((p + i : Nat) : Int)
theorem rng_length (p q : Nat) : (rng p q).length = q - p := by unfold rng; simp
theorem rng_mem {p q : Nat} {x : Int} : x ∈ rng p q ↔ (p : Int) ≤ x ∧ x < q := by
  unfold rng
  simp only [List.mem_map, List.mem_range]
  constructor
  · rintro ⟨k, h, rfl⟩; omega
  · intro h; exact ⟨x.toNat - p, by omega, by omega⟩
theorem rng_split {p q r : Nat} (h1 : p ≤ q) (h2 : q ≤ r) : rng p r = rng p q ++ rng q r := by
  unfold rng
  rw [show r - p = (q - p) + (r - q) by omega, List.range_add, List.map_append, List.map_map]
  congr 1
  apply List.map_congr_left
  intro i _
  simp only [Function.comp]
  omega
theorem rng_pw (p q : Nat) : (rng p q).Pairwise (fun x y => x < y) := by
  unfold rng
  refine List.pairwise_map.2 (List.pairwise_lt_range.imp fun {a b} h => ?_)
  omega
theorem rng_idxs (n : Nat) : rng 0 n = idxs n := by
  unfold rng idxs
  rw [Nat.sub_zero]
  apply List.map_congr_left
  intro i _
  omega
/-- The indices from p to q in order. -/
def srtR (c : Int → Int → Int) (p q : Nat) : List Int := msort c (q - p) (rng p q)
theorem srtR_perm (c : Int → Int → Int) (p q : Nat) : (srtR c p q).Perm (rng p q) := msort_perm _ _ _
theorem srtR_srt {c : Int → Int → Int} (h : POrd c) (p q : Nat) : Srt c (srtR c p q) := msort_pw h (no := id) _ _ (by rw [rng_length]; exact Nat.le_refl _) (rng_pw p q)
theorem srtR_length (c : Int → Int → Int) (p q : Nat) : (srtR c p q).length = q - p := by rw [(srtR_perm c p q).length_eq, rng_length]
theorem srtR_mem {c : Int → Int → Int} {p q : Nat} {x : Int} : x ∈ srtR c p q ↔ (p : Int) ≤ x ∧ x < q := by rw [(srtR_perm c p q).mem_iff, rng_mem]
theorem srtR_low (c : Int → Int → Int) (p q r : Nat) : Low (srtR c p q) (srtR c q r) := fun x hx y hy => by
  have := srtR_mem.1 hx
  have := srtR_mem.1 hy
  omega
theorem srtR_merge {c : Int → Int → Int} (h : POrd c) {p q r : Nat} (h1 : p ≤ q) (h2 : q ≤ r) : mrg c (srtR c p q) (srtR c q r) = srtR c p r := by
  refine (mrg_one h (srtR_srt h p q) (srtR_srt h q r) (srtR_low c p q r) ?_ (srtR_srt h p r)).symm
  refine (srtR_perm c p r).trans ?_
  rw [rng_split h1 h2]
  exact ((srtR_perm c p q).append (srtR_perm c q r)).symm
theorem srtR_empty (c : Int → Int → Int) {p q : Nat} (h : q ≤ p) : srtR c p q = [] := List.length_eq_zero_iff.1 (by rw [srtR_length]; omega)
theorem srtR_all {c : Int → Int → Int} (h : POrd c) (n : Nat) : srtR c 0 n = insAll c n := by
  refine order_one h ?_ (srtR_srt h 0 n)
  rw [← rng_idxs]
  exact srtR_perm c 0 n
/-- Sorted blocks of s indices, from p on; f: fuel. -/
def blks (c : Int → Int → Int) (s n : Nat) : Nat → Nat → List Int
  | 0, _ => []
  | f + 1, p => if p < n then srtR c p (min (p + s) n) ++ blks c s n f (p + s) else []
theorem blks_done (c : Int → Int → Int) {s n p : Nat} (h : n ≤ p) : ∀ f, blks c s n f p = []
  | 0 => rfl
  | f + 1 => by rw [blks, if_neg (by omega)]
theorem blks_fuel (c : Int → Int → Int) {s n : Nat} (hs : 0 < s) : ∀ (f g p : Nat), n ≤ p + f → n ≤ p + g → blks c s n f p = blks c s n g p
  | 0, g, p, h1, _ => by rw [blks_done c (by omega), blks_done c (by omega)]
  | f + 1, 0, p, _, h2 => by rw [blks_done c (by omega), blks_done c (by omega)]
  | f + 1, g + 1, p, h1, h2 => by
    rw [blks, blks]
    split
    · rw [blks_fuel c hs f g (p + s) (by omega) (by omega)]
    · rfl
def blkL (c : Int → Int → Int) (s n p : Nat) : List Int := blks c s n n p
theorem blkL_step (c : Int → Int → Int) {s n p : Nat} (hs : 0 < s) (hp : p < n) : blkL c s n p = srtR c p (min (p + s) n) ++ blkL c s n (p + s) := by
  unfold blkL
  obtain ⟨k, rfl⟩ : ∃ k, n = k + 1 := ⟨n - 1, by omega⟩
  rw [blks, if_pos hp]
  congr 1
  exact blks_fuel c hs k (k + 1) (p + s) (by omega) (by omega)
theorem blkL_done (c : Int → Int → Int) {s n p : Nat} (h : n ≤ p) : blkL c s n p = [] := blks_done c h _
theorem blkL_one (c : Int → Int → Int) {s n p : Nat} (hs : 0 < s) (h : n ≤ p + s) : blkL c s n p = srtR c p n := by
  by_cases hp : p < n
  · rw [blkL_step c hs hp, blkL_done c h, List.append_nil, Nat.min_eq_right h]
  · rw [blkL_done c (by omega), srtR_empty c (by omega)]
/-- Two blocks that will be one. -/
theorem blkL_two (c : Int → Int → Int) {s n p : Nat} (hs : 0 < s) (h : p + 2 * s ≤ n) : blkL c s n p = srtR c p (p + s) ++ srtR c (p + s) (p + 2 * s) ++ blkL c s n (p + 2 * s) := by
  rw [blkL_step c hs (by omega), blkL_step c hs (show p + s < n by omega), Nat.min_eq_left (by omega), Nat.min_eq_left (by omega), show p + s + s = p + 2 * s by omega, List.append_assoc]
theorem blkL_last (c : Int → Int → Int) {s n p : Nat} (hs : 0 < s) (h1 : p + s < n) (h2 : n < p + 2 * s) : blkL c s n p = srtR c p (p + s) ++ srtR c (p + s) n := by
  rw [blkL_step c hs (by omega), Nat.min_eq_left (by omega), blkL_one c hs (show n ≤ p + s + s by omega)]
theorem blkL_length (c : Int → Int → Int) {s n : Nat} (hs : 0 < s) : ∀ (k p : Nat), n - p ≤ k → (blkL c s n p).length = n - p
  | 0, p, h => by rw [blkL_done c (by omega)]; simp; omega
  | k + 1, p, h => by
    by_cases hp : p < n
    · rw [blkL_step c hs hp, List.length_append, srtR_length, blkL_length c hs k (p + s) (by omega)]
      omega
    · rw [blkL_done c (by omega)]; simp; omega
end Go.Proofs.Ytgkemmdghmklfaa

namespace Go.Proofs.Ytgkemmdghmklfaa
set_option linter.unusedVariables false
set_option linter.unusedSimpArgs false

/-! ### The program's insertion sort of a block -/
theorem swpL_mid (A C : List Int) (y x : Int) {j : Nat} (hj : j = A.length) : swpL (A ++ y :: (x :: C)) j = A ++ x :: (y :: C) := by
  have h := swp_mid A [] C y x (p := j) (q := j + 1) hj (by rw [hj]; rfl)
  have e : swpL (A ++ y :: (x :: C)) j = swp (A ++ y :: (x :: C)) j (j + 1) := by
    unfold swpL swp
    exact List.set_comm _ _ (by omega)
  rw [e]
  simpa using h
theorem insIn_spec {c : Int → Int → Int} (h : POrd c) (P : List Int) : ∀ (k : Nat) (X1 : List Int) (x : Int) (R : List Int), X1.length = k → Srt c X1 → Low X1 [x] → insIn c P.length (P.length + k) (P ++ (X1 ++ x :: R)) = P ++ (mrg c X1 [x] ++ R)
  | 0, X1, x, R, hl, _, _ => by
    have : X1 = [] := List.length_eq_zero_iff.1 hl
    subst this
    rw [mrg_nil_l]
    cases hp : P.length + 0 with
    | zero => rw [insIn]; rfl
    | succ j => rw [insIn, if_neg (by omega)]; rfl
  | k + 1, X1, x, R, hl, hs, hlow => by
    obtain ⟨X0, y, rfl⟩ : ∃ X0 y, X1 = X0 ++ [y] := by
      have hne : X1 ≠ [] := fun e => by rw [e] at hl; simp at hl
      exact ⟨X1.dropLast, X1.getLast hne, (List.dropLast_concat_getLast hne).symm⟩
    have hl0 : X0.length = k := by simpa using hl
    have e : P ++ ((X0 ++ [y]) ++ x :: R) = (P ++ X0) ++ y :: (x :: R) := by simp
    have hlen : P.length + k = (P ++ X0).length := by simp [hl0]
    have g1 : (P ++ ((X0 ++ [y]) ++ x :: R)).getD (P.length + k + 1) 0 = x := by
      have e2 : P ++ ((X0 ++ [y]) ++ x :: R) = (P ++ X0 ++ [y]) ++ x :: R := by simp
      rw [e2, show P.length + k + 1 = (P ++ X0 ++ [y]).length by simp [hl0]; omega]
      exact getD_mid _ _ _
    have g2 : (P ++ ((X0 ++ [y]) ++ x :: R)).getD (P.length + k) 0 = y := by
      rw [e, hlen]
      exact getD_mid _ _ _
    have hs' := List.pairwise_append.1 hs
    show insIn c P.length (P.length + k + 1) _ = _
    rw [insIn, g1, g2]
    by_cases hc : c x y < 0
    · rw [if_pos ⟨by omega, hc⟩, e, swpL_mid (P ++ X0) R y x hlen]
      have ih := insIn_spec h P k X0 x (y :: R) hl0 hs'.1 fun a ha b hb => hlow a (by simp [ha]) b hb
      rw [mrg_last h hs hlow hc]
      have e3 : P ++ X0 ++ x :: (y :: R) = P ++ (X0 ++ x :: (y :: R)) := by simp
      rw [e3, ih]
      simp
    · rw [if_neg (fun hh => hc hh.2)]
      have hcy : c y x ≤ 0 := by have := h.neg y x; omega
      rw [mrg_app h hs hlow fun z hz => by
        rcases List.mem_append.1 hz with hz | hz
        · have hb := hs'.2.2 z hz y (by simp)
          have h1 : c z y ≤ 0 := by
            have hb : c z y < 0 ∨ (c z y = 0 ∧ z < y) := hb
            omega
          exact h.tr z y x h1 hcy
        · rw [List.mem_singleton.1 hz]; exact hcy]
      simp
theorem insOut_spec {c : Int → Int → Int} (h : POrd c) (P S : List Int) : ∀ (m i : Nat) (X1 X2 : List Int), X2.length = m → i = P.length + X1.length → Srt c X1 → Low X1 X2 → X2.Pairwise (fun x y => x < y) →
    ∃ Z, insOut c P.length m i (P ++ (X1 ++ (X2 ++ S))) = P ++ (Z ++ S) ∧ Z.Perm (X1 ++ X2) ∧ Srt c Z
  | 0, i, X1, X2, hl, _, hs, _, _ => by
    have : X2 = [] := List.length_eq_zero_iff.1 hl
    subst this
    exact ⟨X1, by rw [insOut]; simp, by simp, hs⟩
  | m + 1, i, X1, X2, hl, hi, hs, hlow, hp => by
    cases X2 with
    | nil => simp at hl
    | cons x r =>
      have hp' := List.pairwise_cons.1 hp
      have h1 := insIn_spec h P X1.length X1 x (r ++ S) rfl hs (fun a ha b hb => hlow a ha b (by simp at hb; simp [hb]))
      rw [insOut, hi]
      have e : P ++ (X1 ++ (x :: r ++ S)) = P ++ (X1 ++ x :: (r ++ S)) := rfl
      rw [e, h1]
      obtain ⟨Z, z1, z2, z3⟩ := insOut_spec h P S m (P.length + X1.length + 1) (mrg c X1 [x]) r (by simpa using hl) (by rw [mrg_length]; simp; omega) (mrg_srt h hs (List.pairwise_singleton _ _) (fun a ha b hb => hlow a ha b (by simp at hb; simp [hb])))
        (fun a ha b hb => by
          rcases mrg_mem.1 ha with ha | ha
          · exact hlow a ha b (by simp [hb])
          · rw [List.mem_singleton.1 ha]; exact hp'.1 b hb) hp'.2
      refine ⟨Z, z1, z2.trans ?_, z3⟩
      have p1 := (mrg_perm c _ X1 [x] (Nat.le_refl _)).append_right r
      simpa using p1
/-- The block from p to q, of indices in their order, is sorted. -/
theorem ins_block {c : Int → Int → Int} (h : POrd c) (P S : List Int) {p q : Nat} (hP : P.length = p) (hpq : p ≤ q) : insOut c p (q - (p + 1)) (p + 1) (P ++ (rng p q ++ S)) = P ++ (srtR c p q ++ S) := by
  by_cases hq : p = q
  · subst hq
    rw [srtR_empty c (Nat.le_refl _), show p - (p + 1) = 0 by omega, insOut]
    have : rng p p = [] := List.length_eq_zero_iff.1 (by rw [rng_length]; omega)
    rw [this]
  · have e : rng p q = [(p : Int)] ++ rng (p + 1) q := by
      rw [rng_split (show p ≤ p + 1 by omega) (show p + 1 ≤ q by omega)]
      congr 1
      unfold rng
      simp
    obtain ⟨Z, z1, z2, z3⟩ := insOut_spec h P S (q - (p + 1)) (p + 1) [(p : Int)] (rng (p + 1) q) (rng_length _ _) (by simp [hP]) (List.pairwise_singleton _ _) (fun x hx y hy => by
      have := rng_mem.1 hy
      rw [List.mem_singleton.1 hx]; omega) (rng_pw _ _)
    have hz : Z = srtR c p q := srt_one h (z2.trans (by rw [← e]; exact (srtR_perm c p q).symm)) z3 (srtR_srt h p q)
    rw [hP] at z1
    rw [e, ← hz, ← z1]
    simp
end Go.Proofs.Ytgkemmdghmklfaa

namespace Go.Proofs.Ytgkemmdghmklfaa
set_option linter.unusedSimpArgs false
set_option linter.unusedVariables false
open Go.RowKit

/-- Ranges of n places from a and from b on, exchanged one by one. -/
def swpN (L : List Int) (a b : Nat) : Nat → List Int
  | 0 => L
  | i + 1 => swp (swpN L a b i) (a + i) (b + i)
theorem swpN_len (L : List Int) (a b : Nat) : ∀ i, (swpN L a b i).length = L.length
  | 0 => rfl
  | i + 1 => by rw [swpN, swp_length, swpN_len]
theorem swpN_eq (P M S : List Int) : ∀ (k : Nat) (X Y X2 Y2 : List Int), X.length = k → X.length = Y.length → X2.length = Y2.length → swpN (P ++ (X ++ X2 ++ (M ++ (Y ++ Y2 ++ S)))) P.length (P.length + X.length + X2.length + M.length) X.length = P ++ (Y ++ X2 ++ (M ++ (X ++ Y2 ++ S))) := by
  intro k
  induction k with
  | zero =>
    intro X Y X2 Y2 h0 h1 h2
    have : X = [] := List.length_eq_zero_iff.1 h0
    subst this
    have : Y = [] := List.length_eq_zero_iff.1 (by simpa using h1.symm)
    subst this
    rfl
  | succ k ih =>
    intro X Y X2 Y2 hk h1 h2
    obtain ⟨X, x, rfl⟩ : ∃ X0 x, X = X0 ++ [x] := by
      have hne : X ≠ [] := fun e => by rw [e] at hk; simp at hk
      exact ⟨X.dropLast, X.getLast hne, (List.dropLast_concat_getLast hne).symm⟩
    obtain ⟨Y0, y, rfl⟩ : ∃ Y0 y, Y = Y0 ++ [y] := by
      have hne : Y ≠ [] := fun e => by rw [e] at h1; simp at h1
      exact ⟨Y.dropLast, Y.getLast hne, (List.dropLast_concat_getLast hne).symm⟩
    have h0 : X.length = Y0.length := by simpa using h1
    have e := ih X Y0 (x :: X2) (y :: Y2) (by simpa using hk) h0 (by simpa using h2)
    have eb : P.length + X.length + (x :: X2).length + M.length = P.length + (X ++ [x]).length + X2.length + M.length := by simp; omega
    have eL : P ++ (X ++ [x] ++ X2 ++ (M ++ (Y0 ++ [y] ++ Y2 ++ S))) = P ++ (X ++ x :: X2 ++ (M ++ (Y0 ++ y :: Y2 ++ S))) := by simp
    rw [eb] at e
    rw [show (X ++ [x]).length = X.length + 1 by simp, swpN, eL]
    rw [show (X ++ [x]).length = X.length + 1 by simp] at e
    rw [e]
    have s := swp_mid (P ++ Y0) (X2 ++ (M ++ X)) (Y2 ++ S) x y (p := P.length + X.length) (q := P.length + (X.length + 1) + X2.length + M.length + X.length) (by simp [h0]) (by simp [h0]; omega)
    have e1 : P ++ (Y0 ++ x :: X2 ++ (M ++ (X ++ y :: Y2 ++ S))) = (P ++ Y0) ++ x :: ((X2 ++ (M ++ X)) ++ y :: (Y2 ++ S)) := by simp
    rw [e1, s]
    simp
theorem swp_mem {xs : List Int} {p q : Nat} (hp : p < xs.length) (hq : q < xs.length) {Q : Int → Prop} (hP : ∀ x ∈ xs, Q x) : ∀ x ∈ swp xs p q, Q x := by
  intro x hx
  unfold swp at hx
  rcases List.mem_or_eq_of_mem_set hx with h1 | h1
  · rcases List.mem_or_eq_of_mem_set h1 with h2 | h2
    · exact hP x h2
    · rw [h2]; exact hP _ (by simp [List.getD, hq])
  · rw [h1]; exact hP _ (by simp [List.getD, hp])

set_option maxRecDepth 1000000 in
set_option maxHeartbeats 8000000 in
theorem swaprange_any (B : Nat) (wB : World) (fv : Value) (L : List Int) (g n c a b k : Nat) (w : World) (hB : B = wB.heap.size) (hO : OwnI B (fun _ => False) w (.slice (some ⟨g, 0, none⟩) n c) n L) (hE : Ext wB w) (hab : a + k ≤ b) (hbn : b + k ≤ n) (hn : n ≤ 65536) :
    Calls Try.prog 175 #[.slice (some ⟨g, 0, none⟩) n c, .int .i64 (a : Int), .int .i64 (b : Int), .int .i64 (k : Int), fv] w fun e w' => e = .returned (.tuple #[]) ∧ OwnI B (fun _ => False) w' (.slice (some ⟨g, 0, none⟩) n c) n (swpN L a b k) ∧ Ext wB w' := by
  subst hB
  have HO := Lib.hid hO
  have HE := Lib.hid hE
  clear hO hE
  go_enter Try.func175, Try.ntmps175
  go_wp2_with fail
  go_loopw [10] (fun iv wr => ∃ (i : Nat), iv = .int .i64 (i : Int) ∧ i ≤ k ∧ OwnI wB.heap.size (fun _ => False) wr (.slice (some ⟨g, 0, none⟩) n c) n (swpN L a b i) ∧ Ext wB wr) (fun iv _ => k - (intOf iv).toNat)
  case atStart => exact ⟨0, rfl, by omega, HO.out, HE.out⟩
  case round =>
  clear HO HE
  obtain ⟨i, rfl, hik, hO, hE⟩ := hrel
  have HO := Lib.hid hO
  have HE := Lib.hid hE
  clear hO hE
  by_cases hlt : i < k
  rotate_left
  · have hd : i = k := by omega
    have HO2 := Lib.hid HO.out
    subst hd
    clear HO
    go_wp2_with fail
    go_end0
    exact ⟨rfl, HO2.out, HE.out⟩
  have HSW := Lib.hid (show swpN L a b (i + 1) = swp (swpN L a b i) (a + i) (b + i) from rfl)
  generalize hx4 : swpN L a b (i + 1) = xs4 at HSW ⊢
  have HX5 := Lib.hid hx4
  clear hx4
  generalize swpN L a b i = xs3 at *
  obtain ⟨p, hp⟩ : ∃ p, p = a + i := ⟨_, rfl⟩
  obtain ⟨q, hq⟩ : ∃ q, q = b + i := ⟨_, rfl⟩
  rw [← hp, ← hq] at HSW
  have hpI : (a : Int) + (i : Int) = (p : Int) := by omega
  have hqI : (b : Int) + (i : Int) = (q : Int) := by omega
  have hpn : p < n := by omega
  have hqn : q < n := by omega
  have hpq : p ≠ q := by omega
  have hwp : IntKind.i64.wrap ((a : Int) + (i : Int)) = (p : Int) := by rw [hpI]; exact IntWalk.i64_in _ (by omega)
  have hwq : IntKind.i64.wrap ((b : Int) + (i : Int)) = (q : Int) := by rw [hqI]; exact IntWalk.i64_in _ (by omega)
  clear hp hq
  have hxl := HO.out.1
  obtain ⟨g1, eg1, hBg, hgl, cx, fx, sx⟩ := HO.out.at' (j := p) (by omega)
  cases eg1
  obtain ⟨g2, eg2, _, _, cy, fy0, _⟩ := HO.out.at' (j := q) (by omega)
  cases eg2
  have hxb := HO.out.2.2.2.2 (xs3.getD p 0) (by simp [List.getD, show p < xs3.length by omega])
  have hyb := HO.out.2.2.2.2 (xs3.getD q 0) (by simp [List.getD, show q < xs3.length by omega])
  have hO1 := sx (xs3.getD q 0) hyb
  obtain ⟨g3, eg3, _, _, cy2, fy, sy⟩ := hO1.at' (j := q) (by omega)
  cases eg3
  have hO2 := (sy (xs3.getD p 0) hxb).ext (Ext.refl _).drew
  have hsw : swp xs3 p q = (xs3.set p (xs3.getD q 0)).set q (xs3.getD p 0) := rfl
  rw [← hsw, ← HSW.out] at hO2
  have hcy : (xs3.set p (xs3.getD q 0)).getD q 0 = xs3.getD q 0 := by simp [List.getD, hpq]
  rw [hcy] at cy2
  generalize xs3.getD p 0 = x at *
  generalize xs3.getD q 0 = y at *
  have hE2 : Ext wB (((wr.setCell ⟨g, p, none⟩ (.int .i64 y)).setCell ⟨g, q, none⟩ (.int .i64 x)).drew) := (((HE.out.setCell (p := ⟨g, p, none⟩) hBg _).setCell (p := ⟨g, q, none⟩) hBg _)).drew
  have HO2 := Lib.hid hO2
  have HE2 := Lib.hid hE2
  clear hO1 sx sy hO2 hE2 HO HE hcy hsw HSW hxl
  go_wp2_with fail
  go_big_region
  generalize ((wr.setCell ⟨g, p, none⟩ (.int .i64 y)).setCell ⟨g, q, none⟩ (.int .i64 x)).drew = w7 at HO2 HE2 ⊢
  clear cx cy cy2 fx fy fy0
  (try simp only [Exit.inBlock, Exit.then])
  go_wp2_with fail
  go_roundw
  case rel => exact ⟨i + 1, by go_num, by omega, by rw [HX5.out]; exact HO2.out, HE2.out⟩
  case measure => simp [intOf]; omega

theorem swpN_blk (P X M Y S : List Int) {a b k : Nat} (hk : X.length = k) (hY : Y.length = k) (ha : P.length = a) (hb : a + k + M.length = b) : swpN (P ++ (X ++ (M ++ (Y ++ S)))) a b k = P ++ (Y ++ (M ++ (X ++ S))) := by
  have h := swpN_eq P M S k X Y [] [] hk (by omega) rfl
  simp only [List.append_nil, List.length_nil, Nat.add_zero] at h
  subst ha
  subst hk
  rw [← hb, h]

set_option maxRecDepth 1000000 in
set_option maxHeartbeats 8000000 in
theorem rotate_any (wB : World) (fv : Value) (P X Y S : List Int) (g n c a m b : Nat) (w : World) (hO : OwnI wB.heap.size (fun _ => False) w (.slice (some ⟨g, 0, none⟩) n c) n (P ++ (X ++ (Y ++ S)))) (hE : Ext wB w) (ha : P.length = a) (hm : a + X.length = m) (hb : m + Y.length = b) (hX : 0 < X.length) (hY : 0 < Y.length) (hn : n ≤ 65536) :
    Calls Try.prog 171 #[.slice (some ⟨g, 0, none⟩) n c, .int .i64 (a : Int), .int .i64 (m : Int), .int .i64 (b : Int), fv] w fun e w' => e = .returned (.tuple #[]) ∧ OwnI wB.heap.size (fun _ => False) w' (.slice (some ⟨g, 0, none⟩) n c) n (P ++ (Y ++ (X ++ S))) ∧ Ext wB w' := by
  have hlen := hO.1
  simp only [List.length_append] at hlen
  have h1 : (m : Int) - (a : Int) = (X.length : Int) := by omega
  have h2 : (b : Int) - (m : Int) = (Y.length : Int) := by omega
  have w1 : IntKind.i64.wrap ((m : Int) - (a : Int)) = (X.length : Int) := by rw [h1]; exact IntWalk.i64_in _ (by omega)
  have w2 : IntKind.i64.wrap ((b : Int) - (m : Int)) = (Y.length : Int) := by rw [h2]; exact IntWalk.i64_in _ (by omega)
  have hmn : m ≤ n := by omega
  have HO := Lib.hid hO
  have HE := Lib.hid hE
  have HX0 := Lib.hid (show P.length + X.length = m by omega)
  generalize hR : P ++ (Y ++ (X ++ S)) = R
  have HR := Lib.hid hR
  generalize hL : P ++ (X ++ (Y ++ S)) = L at *
  have HL := Lib.hid hL
  generalize hx : X.length = lx at *
  generalize hy : Y.length = ly at *
  have HX := Lib.hid hx
  have HY := Lib.hid hy
  clear hO hE hR hlen ha hm hb h1 h2 hL hx hy
  go_enter Try.func171, Try.ntmps171
  go_wp2_with fail
  go_loopw [10, 11] (fun iv jv wr => ∃ (i j : Nat) (P2 U V S2 : List Int), iv = .int .i64 (i : Int) ∧ jv = .int .i64 (j : Int) ∧ 0 < i ∧ 0 < j ∧ Hid (U.length = i ∧ V.length = j ∧ P2.length + i = m ∧ P2 ++ (V ++ (U ++ S2)) = R) ∧ OwnI wB.heap.size (fun _ => False) wr (.slice (some ⟨g, 0, none⟩) n c) n (P2 ++ (U ++ (V ++ S2))) ∧ Ext wB wr) (fun iv jv _ => (intOf iv).toNat + (intOf jv).toNat)
  case atStart => exact ⟨lx, ly, P, X, Y, S, rfl, rfl, hX, hY, Lib.hid ⟨HX.out, HY.out, HX0.out, HR.out⟩, by rw [HL.out]; exact HO.out, HE.out⟩
  case round =>
  clear HO HE HR HX0 HX HY HL w1 w2 hX hY
  clear X Y P S L
  obtain ⟨i, j, P2, U, V, S2, rfl, rfl, hi0, hj0, HP, hO, hE⟩ := hrel
  obtain ⟨hU, hV, hP2, hR⟩ := HP.out
  have hlen := hO.1
  simp only [List.length_append] at hlen
  have hi : (m : Int) - (i : Int) = (P2.length : Int) := by omega
  have wi : IntKind.i64.wrap ((m : Int) - (i : Int)) = (P2.length : Int) := by rw [hi]; exact IntWalk.i64_in _ (by omega)
  have hmj : m + j ≤ n := by omega
  have him : i ≤ m := by omega
  by_cases hij : i = j
  · have HC := Lib.hid (swaprange_any wB.heap.size wB fv _ g n c P2.length m j wr rfl hO hE (by omega) (by omega) hn)
    have hb := swpN_blk P2 U [] V S2 (a := P2.length) (b := m) (k := j) (by omega) hV rfl (by simp; omega)
    simp only [List.nil_append] at hb
    rw [hb, hR] at HC
    generalize P2.length = p at *
    clear hb HP hU hV hP2 hR hlen hO hE hi hi0 hj0 him hmj
    subst hij
    go_wp2_with fail
    refine HC.out.mono ?_
    rintro e w2 ⟨rfl, hO, hE⟩
    clear HC
    have HO := Lib.hid hO
    have HE := Lib.hid hE
    clear hO hE
    go_wp2_with fail
    go_end0
    exact ⟨rfl, HO.out, HE.out⟩
  by_cases hlt : j < i
  · obtain ⟨U1, U2, rfl, hU1⟩ : ∃ U1 U2, U = U1 ++ U2 ∧ U1.length = j := ⟨U.take j, U.drop j, (List.take_append_drop j U).symm, by simp; omega⟩
    have hU2 : U2.length = i - j := by simp at hU; omega
    have HC := Lib.hid (swaprange_any wB.heap.size wB fv _ g n c P2.length m j wr rfl hO hE (by omega) (by omega) hn)
    have hb := swpN_blk P2 U1 U2 V S2 (a := P2.length) (b := m) (k := j) hU1 hV rfl (by omega)
    rw [List.append_assoc U1 U2, hb] at HC
    have hN : P2 ++ (V ++ (U2 ++ (U1 ++ S2))) = (P2 ++ V) ++ (U2 ++ (U1 ++ S2)) := by simp
    rw [hN] at HC
    have HP3 : Hid (U2.length = i - j ∧ U1.length = j ∧ (P2 ++ V).length + (i - j) = m ∧ (P2 ++ V) ++ (U1 ++ (U2 ++ S2)) = R) := Lib.hid ⟨hU2, hU1, by simp; omega, by rw [← hR]; simp⟩
    have hs : (i : Int) - (j : Int) = ((i - j : Nat) : Int) := by omega
    have wsub : IntKind.i64.wrap ((i : Int) - (j : Int)) = ((i - j : Nat) : Int) := by rw [hs]; exact IntWalk.i64_in _ (by omega)
    generalize P2.length = p at *
    clear hb HP hU hV hP2 hR hlen hO hE hi hU1 hU2 hN
    have hd0 : 0 < i - j := by omega
    have hdl : i - j < i := by omega
    generalize i - j = d at *
    clear hs
    go_wp2_with fail
    refine HC.out.mono ?_
    rintro e w2 ⟨rfl, hO, hE⟩
    clear HC
    have HO := Lib.hid hO
    have HE := Lib.hid hE
    clear hO hE
    go_wp2_with fail
    go_roundw
    case rel => exact ⟨d, j, _, _, _, _, rfl, rfl, hd0, hj0, HP3, HO.out, HE.out⟩
    case measure => simp [intOf]; omega
  · obtain ⟨V1, V2, rfl, hV1⟩ : ∃ V1 V2, V = V1 ++ V2 ∧ V1.length = j - i := ⟨V.take (j - i), V.drop (j - i), (List.take_append_drop _ V).symm, by simp; omega⟩
    have hV2 : V2.length = i := by simp at hV; omega
    have HC := Lib.hid (swaprange_any wB.heap.size wB fv _ g n c P2.length (m + (j - i)) i wr rfl hO hE (by omega) (by omega) hn)
    have hb := swpN_blk P2 U V1 V2 S2 (a := P2.length) (b := m + (j - i)) (k := i) hU hV2 rfl (by omega)
    rw [List.append_assoc V1 V2, hb] at HC
    have HP3 : Hid (V2.length = i ∧ V1.length = j - i ∧ P2.length + i = m ∧ P2 ++ (V1 ++ (V2 ++ (U ++ S2))) = R) := Lib.hid ⟨hV2, hV1, hP2, by rw [← hR]; simp⟩
    have hs : (j : Int) - (i : Int) = ((j - i : Nat) : Int) := by omega
    have wsub : IntKind.i64.wrap ((j : Int) - (i : Int)) = ((j - i : Nat) : Int) := by rw [hs]; exact IntWalk.i64_in _ (by omega)
    have hmj2 : (m : Int) + (j : Int) = ((m + j : Nat) : Int) := by omega
    have wmj : IntKind.i64.wrap ((m : Int) + (j : Int)) = ((m + j : Nat) : Int) := by rw [hmj2]; exact IntWalk.i64_in _ (by omega)
    have hq : ((m + j : Nat) : Int) - (i : Int) = ((m + (j - i) : Nat) : Int) := by omega
    have wq : IntKind.i64.wrap (((m + j : Nat) : Int) - (i : Int)) = ((m + (j - i) : Nat) : Int) := by rw [hq]; exact IntWalk.i64_in _ (by omega)
    have hd0 : 0 < j - i := by omega
    have hdl : j - i < j := by omega
    generalize m + (j - i) = q at *
    generalize hpl : P2.length = p at *
    have HPL := Lib.hid hpl
    clear hb HP hU hV hP2 hR hlen hO hE hi hV1 hV2 hpl
    generalize j - i = d at *
    generalize m + j = mj at *
    clear hs hmj2 hq
    go_wp2_with fail
    refine HC.out.mono ?_
    rintro e w2 ⟨rfl, hO, hE⟩
    clear HC
    have HO := Lib.hid hO
    have HE := Lib.hid hE
    clear hO hE
    go_wp2_with fail
    go_roundw
    case rel => exact ⟨i, d, P2, V2, V1, U ++ S2, rfl, rfl, hi0, hd0, by rw [HPL.out]; exact HP3, HO.out, HE.out⟩
    case measure => simp [intOf]; omega

end Go.Proofs.Ytgkemmdghmklfaa
