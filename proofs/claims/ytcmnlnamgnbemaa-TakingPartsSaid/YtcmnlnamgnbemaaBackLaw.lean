/-
  PLAIN LAW: a transposition by a permutation keeps an array right, and one by its inverse takes it back (layer 21).
-/
import Derived.Test.YtcmnlnamgnbemaaTransEq
namespace Go.Proofs.Ytcmnlnamgnbemaa
set_option linter.unusedSimpArgs false
set_option linter.unusedVariables false

theorem getD_in {l : List Int} {i : Nat} (h : i < l.length) : l.getD i 0 ∈ l := by
  simp only [List.getD, List.getElem?_eq_getElem h, Option.getD_some]
  exact List.getElem_mem h

/-- l and b are permutations of 0 .. r-1, each the other's inverse. -/
structure PInv (l b : List Int) (r : Nat) : Prop where
  ll : l.length = r
  lb : b.length = r
  rl : ∀ i, i < r → 0 ≤ l.getD i 0 ∧ l.getD i 0 < r
  rb : ∀ i, i < r → 0 ≤ b.getD i 0 ∧ b.getD i 0 < r
  lbl : ∀ i, i < r → b.getD (l.getD i 0).toNat 0 = i
  blb : ∀ i, i < r → l.getD (b.getD i 0).toNat 0 = i
theorem PInv.symm {l b : List Int} {r : Nat} (h : PInv l b r) : PInv b l r := ⟨h.lb, h.ll, h.rb, h.rl, h.blb, h.lbl⟩

theorem umap_getD (l t : List Int) (j : Nat) (h : j < l.length) : (umap l t).getD j 0 = t.getD (l.getD j 0).toNat 0 := by
  simp [umap, List.getD, h]
theorem ext_getD {s t : List Int} (hl : s.length = t.length) (h : ∀ j, j < s.length → s.getD j 0 = t.getD j 0) : s = t := by
  apply List.ext_getElem hl
  intro i h1 h2
  have := h i h1
  simpa [List.getD, h1, h2] using this
theorem PInv.umap {l b : List Int} {r : Nat} (h : PInv l b r) {t : List Int} (ht : t.length = r) : umap l (umap b t) = t := by
  refine ext_getD (by rw [umap_length, h.ll, ht]) fun j hj => ?_
  rw [umap_length, h.ll] at hj
  have h1 := h.rl j hj
  rw [umap_getD _ _ _ (by rw [h.ll]; exact hj), umap_getD _ _ _ (by rw [h.lb]; omega), h.lbl j hj]
  simp

theorem perm_of_inv {N : Nat} (f g : Nat → Nat) (hf : ∀ i, i < N → f i < N ∧ g (f i) = i) (hg : ∀ i, i < N → g i < N ∧ f (g i) = i) : ((List.range N).map f).Perm (List.range N) := by
  refine (List.perm_ext_iff_of_nodup ?_ List.nodup_range).2 fun a => ?_
  · refine List.pairwise_map.2 ?_
    refine List.Pairwise.imp_of_mem ?_ (List.nodup_range (n := N))
    intro a b ha hb hne e
    rw [List.mem_range] at ha hb
    apply hne
    rw [← (hf a ha).2, ← (hf b hb).2, e]
  · rw [List.mem_map, List.mem_range]
    constructor
    · rintro ⟨i, hi, rfl⟩
      rw [List.mem_range] at hi
      exact (hf i hi).1
    · intro ha
      exact ⟨g a, List.mem_range.2 (hg a ha).1, (hg a ha).2⟩
theorem range_getD {α : Type} (n : List α) (d : α) : (List.range n.length).map (fun j => n.getD j d) = n := by
  apply List.ext_getElem (by simp)
  intro i h1 h2
  simp [List.getD, h2]
theorem map_perm {α : Type} (n : List α) (d : α) (f g : Nat → Nat) (hf : ∀ i, i < n.length → f i < n.length ∧ g (f i) = i) (hg : ∀ i, i < n.length → g i < n.length ∧ f (g i) = i) : ((List.range n.length).map fun i => n.getD (f i) d).Perm n := by
  have h := (perm_of_inv f g hf hg).map (fun j => n.getD j d)
  rw [List.map_map, range_getD] at h
  exact h
theorem PInv.perm {l b : List Int} {r : Nat} (h : PInv l b r) {s : List Int} (hs : s.length = r) : (Go.Proofs.Ytcmnlnamgnbemaa.umap b s).Perm s := by
  have e : Go.Proofs.Ytcmnlnamgnbemaa.umap b s = (List.range s.length).map fun i => s.getD ((b.getD i 0).toNat) 0 := by
    refine ext_getD (by simp [umap_length, h.lb, hs]) fun j hj => ?_
    rw [umap_length] at hj
    rw [umap_getD _ _ _ hj]
    simp [List.getD, show j < s.length by rw [hs, ← h.lb]; exact hj]
  rw [e]
  refine map_perm s 0 _ (fun i => (l.getD i 0).toNat) (fun i hi => ?_) (fun i hi => ?_)
  · have h1 := h.rb i (by omega)
    have h2 := h.blb i (by omega)
    exact ⟨by omega, by rw [h2]; simp⟩
  · have h1 := h.rl i (by omega)
    have h2 := h.lbl i (by omega)
    exact ⟨by omega, by rw [h2]; simp⟩

theorem rightGo_perm {s t : List Int} (h : s.Perm t) : ∀ p : Int, 0 ≤ p → rightGo p s = rightGo p t := by
  induction h with
  | nil => intro p _; rfl
  | cons d _ ih =>
    intro p hp
    rw [rightGo, rightGo]
    by_cases h1 : d < 0 ∨ 65536 < d
    · rw [if_pos h1, if_pos h1]
    · rw [if_neg h1, if_neg h1]
      rw [ih p hp, ih (p * d) (Int.mul_nonneg hp (by omega))]
  | swap a b l =>
    intro p hp
    simp only [rightGo]
    by_cases ha : a < 0 ∨ 65536 < a
    · simp only [if_pos ha]; split <;> (try split) <;> (try split) <;> rfl
    · by_cases hb : b < 0 ∨ 65536 < b
      · simp only [if_pos hb]; split <;> (try split) <;> (try split) <;> rfl
      · simp only [if_neg ha, if_neg hb]
        by_cases a0 : a = 0
        · simp only [if_pos a0]
        · by_cases b0 : b = 0
          · simp only [if_pos b0]
          · simp only [if_neg a0, if_neg b0]
            have e : p * b * a = p * a * b := by rw [Int.mul_assoc, Int.mul_comm b a, ← Int.mul_assoc]
            have h1 : p * a ≤ p * a * b := by
              have := Int.mul_le_mul_of_nonneg_left (show (1 : Int) ≤ b by omega) (Int.mul_nonneg hp (show (0 : Int) ≤ a by omega))
              omega
            have h2 : p * b ≤ p * a * b := by
              have := Int.mul_le_mul_of_nonneg_left (show (1 : Int) ≤ a by omega) (Int.mul_nonneg hp (show (0 : Int) ≤ b by omega))
              omega
            rw [e]
            by_cases h3 : 65536 < p * a * b
            · simp only [if_pos h3]; split <;> split <;> rfl
            · simp only [if_neg h3, if_neg (show ¬ 65536 < p * a by omega), if_neg (show ¬ 65536 < p * b by omega)]
  | trans _ _ ih1 ih2 => intro p hp; rw [ih1 p hp, ih2 p hp]
theorem prodA_perm {s t : List Int} (h : s.Perm t) : ∀ p : Int, prodA p s = prodA p t := by
  induction h with
  | nil => intro p; rfl
  | cons d _ ih => intro p; rw [prodA, prodA, ih]
  | swap a b l =>
    intro p
    simp only [prodA]
    by_cases a0 : a = 0
    · simp only [if_pos a0]; split <;> rfl
    · by_cases b0 : b = 0
      · simp only [if_pos b0, if_neg a0]
      · simp only [if_neg a0, if_neg b0]
        rw [Int.mul_assoc, Int.mul_comm b a, ← Int.mul_assoc]
  | trans _ _ ih1 ih2 => intro p; rw [ih1 p, ih2 p]
theorem shapeRight_perm {s t : List Int} (h : s.Perm t) : shapeRight s = shapeRight t := by
  unfold shapeRight
  rw [h.length_eq, rightGo_perm h 1 (by omega)]
theorem shapeSize_perm {s t : List Int} (h : s.Perm t) : shapeSize s = shapeSize t := by
  unfold shapeSize
  rw [shapeRight_perm h, ← prodA_volOf, ← prodA_volOf, prodA_perm h]

theorem itemsV_perm {s t : List Arr} (h : s.Perm t) : ∀ d wt : Int, 0 ≤ wt → itemsV s d wt = itemsV t d wt := by
  induction h with
  | nil => intro d wt _; rfl
  | cons x _ ih =>
    intro d wt hw
    have := visitV_bd _ x (Nat.lt_succ_self _)
    rw [itemsV, itemsV, ih _ _ (by omega)]
  | swap a b l =>
    intro d wt hw
    simp only [itemsV]
    have h1 := visitV_bd _ a (Nat.lt_succ_self _)
    have h2 := visitV_bd _ b (Nat.lt_succ_self _)
    by_cases ha : (visitV a).1 ≠ 0
    · simp only [if_pos ha]; split <;> rfl
    · by_cases hb : (visitV b).1 ≠ 0
      · simp only [if_pos hb, if_neg ha]
      · simp only [if_neg ha, if_neg hb]
        congr 1 <;> omega
  | trans _ _ ih1 ih2 => intro d wt hw; rw [ih1 d wt hw, ih2 d wt hw]
theorem any_neg_perm {s t : List Int} (h : s.Perm t) (p : Int → Bool) : s.any p = t.any p := h.any_eq
theorem visitV_perm {k : Int} {s t n n' : List Int} {it it' : List Arr} (hs : s.Perm t) (hn : n.Perm n') (hi : it.Perm it') : visitV (.mk k s n it) = visitV (.mk k t n' it') := by
  have hf : formV (.mk k s n it) = formV (.mk k t n' it') := by
    show (if k = 3 then formOf k s it.length n.length else formOf k s n.length it.length) = (if k = 3 then formOf k t it'.length n'.length else formOf k t n'.length it'.length)
    unfold formOf
    rw [hs.length_eq, hs.any_eq, shapeRight_perm hs, shapeSize_perm hs, hn.length_eq, hi.length_eq]
  rw [visitV, visitV, hf, hn.any_eq, hn.length_eq, hi.length_eq, itemsV_perm hi 0 _ (by omega)]

theorem rdimAt_no (j : Int) : ∀ (l s : List Int) (acc : Int), j ∉ l → rdimAt j l s acc = acc
  | [], s, acc, _ => by unfold rdimAt; rfl
  | a :: r, [], acc, _ => by unfold rdimAt; rfl
  | a :: r, f :: q, acc, h => by
    rw [rdimAt, if_neg (fun e => h (by simp [e])), rdimAt_no j r q acc (fun e => h (by simp [e]))]
theorem rdimAt_one (j : Int) : ∀ (l s : List Int) (acc : Int) (i : Nat), l.length = s.length → i < l.length → l.getD i 0 = j → (∀ i', i' < l.length → l.getD i' 0 = j → i' = i) → rdimAt j l s acc = min acc (s.getD i 0)
  | [], s, acc, i, _, h, _, _ => by simp at h
  | a :: r, [], acc, i, h, _, _, _ => by simp at h
  | a :: r, f :: q, acc, 0, hl, hi, he, hu => by
    have ha : a = j := by simpa using he
    rw [rdimAt, if_pos ha, rdimAt_no]
    · simp
    · intro hm
      obtain ⟨i, hi2, e⟩ := List.mem_iff_getElem.1 hm
      have := hu (i + 1) (by simp; omega) (by simp [List.getD, hi2, e])
      omega
  | a :: r, f :: q, acc, i + 1, hl, hi, he, hu => by
    have ha : ¬ a = j := fun e => by
      have := hu 0 (by simp) (by simpa using e)
      omega
    rw [rdimAt, if_neg ha, rdimAt_one j r q acc i (by simpa using hl) (by simpa using hi) (by simpa using he) (fun i' h1 h2 => by
      have := hu (i' + 1) (by simpa using h1) (by simpa using h2)
      omega)]
    simp
theorem PInv.ax {l b : List Int} {r : Nat} (h : PInv l b r) : (axGo 0 l).toNat = r := by
  have hm : ∀ a ∈ l, 0 ≤ a ∧ a < r := fun a ha => by
    obtain ⟨i, hi, e⟩ := List.mem_iff_getElem.1 ha
    have := h.rl i (by rw [← h.ll]; exact hi)
    simp only [List.getD, hi, List.getElem?_eq_getElem, Option.getD_some] at this
    rw [← e]; exact this
  have h1 := axGo_bd l 0 r (by omega) (by omega) (fun a ha => (hm a ha).2)
  rcases Nat.eq_zero_or_pos r with h0 | h0
  · omega
  · have h2 := h.blb (r - 1) (by omega)
    have h3 := h.rb (r - 1) (by omega)
    have h4 : ((r - 1 : Nat) : Int) ∈ l := by
      have hlt : (b.getD (r - 1) 0).toNat < l.length := by rw [h.ll]; omega
      rw [← h2]
      exact getD_in hlt
    have h5 := axGo_lt l 0 _ h4
    omega
theorem PInv.mem {l b : List Int} {r : Nat} (h : PInv l b r) : ∀ a ∈ l, 0 ≤ a ∧ a < r := fun a ha => by
  obtain ⟨i, hi, e⟩ := List.mem_iff_getElem.1 ha
  have := h.rl i (by rw [← h.ll]; exact hi)
  simp only [List.getD, hi, List.getElem?_eq_getElem, Option.getD_some] at this
  rw [← e]; exact this
theorem PInv.rdims {l b : List Int} {r : Nat} (h : PInv l b r) {s : List Int} (hs : s.length = r) (hf : ∀ f ∈ s, 0 ≤ f ∧ f ≤ 65536) : Go.Proofs.Ytcmnlnamgnbemaa.rdims l s (axGo 0 l).toNat = Go.Proofs.Ytcmnlnamgnbemaa.umap b s := by
  rw [h.ax]
  refine ext_getD (by rw [rdims_length, umap_length, h.lb]) fun j hj => ?_
  rw [rdims_length] at hj
  rw [rdims_getD _ _ _ _ hj, umap_getD _ _ _ (by rw [h.lb]; exact hj)]
  have h1 := h.rb j hj
  rw [rdimAt_one (j : Int) l s 65536 (b.getD j 0).toNat (by rw [h.ll, hs]) (by rw [h.ll]; omega) (h.blb j hj) (fun i' h2 h3 => by
    have h4 := h.lbl i' (by rw [← h.ll]; exact h2)
    rw [h3, Int.toNat_natCast] at h4
    rw [h4]; simp)]
  have h5 := hf (s.getD (b.getD j 0).toNat 0) (getD_in (by omega))
  omega
theorem PInv.compl {l b : List Int} {r : Nat} (h : PInv l b r) : complV l = true := by
  rw [compl_iff, h.ax]
  intro j hj
  have h1 := h.rb j hj
  have h2 := h.blb j hj
  rw [← h2]
  exact getD_in (by rw [h.ll]; omega)

theorem W_idxOf : ∀ (s : List Int) (o : Int), Pos s → 0 ≤ o → o < pp s → Go.Proofs.Ytcmnlnamgnbemaa.W s (idxOf s o) = o
  | [], o, _, h0, h1 => by
    rw [pp] at h1
    unfold idxOf
    simp [Go.Proofs.Ytcmnlnamgnbemaa.W]; omega
  | d :: r, o, hp, h0, h1 => by
    have h3 := pp_pos r hp.tail
    rw [idxOf, pp_prodA r 1 hp.tail, Int.one_mul, Go.Proofs.Ytcmnlnamgnbemaa.W, W_idxOf r _ hp.tail (Int.emod_nonneg _ (by omega)) (Int.emod_lt_of_pos _ h3)]
    have := Int.mul_ediv_add_emod o (pp r)
    rw [Int.mul_comm] at this
    exact this
theorem offGo_W : ∀ (s t : List Int) (n : Int), Within s t → offGo n s t = some (n * pp s + Go.Proofs.Ytcmnlnamgnbemaa.W s t)
  | [], [], n, _ => by simp [offGo, pp, Go.Proofs.Ytcmnlnamgnbemaa.W]
  | [], _ :: _, _, h => by have := h.1; simp at this
  | _ :: _, [], _, h => by have := h.1; simp at this
  | d :: r, x :: q, n, h => by
    have hx := h.head
    rw [offGo, if_neg (by omega), offGo_W r q _ h.tail, pp, Go.Proofs.Ytcmnlnamgnbemaa.W, Int.add_mul, Int.mul_assoc, Int.add_assoc]
theorem offV_W {s t : List Int} (hr : shapeRight s = true) (h : Within s t) : (offV s t).1 = Go.Proofs.Ytcmnlnamgnbemaa.W s t := by
  unfold offV
  rw [if_neg (by simp [hr, h.1]), offGo_W s t 0 h]
  simp
theorem PInv.within {l b : List Int} {r : Nat} (h : PInv l b r) {s t : List Int} (hs : s.length = r) (ht : Within (Go.Proofs.Ytcmnlnamgnbemaa.umap b s) t) : Within s (Go.Proofs.Ytcmnlnamgnbemaa.umap l t) := by
  refine ⟨by rw [umap_length, h.ll, hs], fun j hj => ?_⟩
  have h1 := h.rl j (by omega)
  have h2 := ht.2 (l.getD j 0).toNat (by rw [umap_length, h.lb]; omega)
  rw [umap_getD _ _ _ (by rw [h.lb]; omega), h.lbl j (by omega)] at h2
  rw [umap_getD _ _ _ (by rw [h.ll]; omega)]
  simpa using h2
theorem PInv.pos {l b : List Int} {r : Nat} (h : PInv l b r) {s : List Int} (hs : s.length = r) (hp : Pos s) : Pos (Go.Proofs.Ytcmnlnamgnbemaa.umap b s) := fun j hj => by
  rw [umap_length, h.lb] at hj
  have := h.rb j hj
  rw [umap_getD _ _ _ (by rw [h.lb]; exact hj)]
  exact hp _ (by omega)
theorem PInv.off {l b : List Int} {r : Nat} (h : PInv l b r) {s : List Int} (hs : s.length = r) (hr : shapeRight s = true) (hp : Pos s) (i : Nat) (hi : (i : Int) < pp s) :
    0 ≤ offAt l s (Go.Proofs.Ytcmnlnamgnbemaa.umap b s) i ∧ offAt l s (Go.Proofs.Ytcmnlnamgnbemaa.umap b s) i < pp s ∧ offAt b (Go.Proofs.Ytcmnlnamgnbemaa.umap b s) s (offAt l s (Go.Proofs.Ytcmnlnamgnbemaa.umap b s) i).toNat = i := by
  have hpm := h.perm hs
  have hp2 := h.pos hs hp
  have epp : pp (Go.Proofs.Ytcmnlnamgnbemaa.umap b s) = pp s := by
    have := prodA_perm hpm 1
    rw [pp_prodA _ 1 hp2, pp_prodA _ 1 hp] at this
    omega
  have hr2 : shapeRight (Go.Proofs.Ytcmnlnamgnbemaa.umap b s) = true := by rw [shapeRight_perm hpm]; exact hr
  have ht : Within (Go.Proofs.Ytcmnlnamgnbemaa.umap b s) (idxOf (Go.Proofs.Ytcmnlnamgnbemaa.umap b s) i) := idxOf_within _ _ (shapeRight_go hr2).1 (by omega) (by rw [pp_prodA _ 1 hp2]; omega)
  have hu := h.within hs ht
  have e1 : offAt l s (Go.Proofs.Ytcmnlnamgnbemaa.umap b s) i = Go.Proofs.Ytcmnlnamgnbemaa.W s (Go.Proofs.Ytcmnlnamgnbemaa.umap l (idxOf (Go.Proofs.Ytcmnlnamgnbemaa.umap b s) i)) := offV_W hr hu
  have hb := W_bd s _ hp hu
  refine ⟨by omega, by omega, ?_⟩
  unfold offAt at e1 ⊢
  rw [e1, Int.toNat_of_nonneg hb.1, idxOf_W s _ hp hu, h.symm.umap (by rw [idxOf_length, umap_length, h.lb]), offV_W hr2 ht, W_idxOf _ _ hp2 (by omega) (by omega)]

/-- The transposition of a right array by a permutation: its parts. -/
theorem PInv.trans {l b : List Int} {r : Nat} (h : PInv l b r) {k : Int} {s n : List Int} {it : List Arr} (hs : s.length = r) (hf : ∀ f ∈ s, 0 ≤ f ∧ f ≤ 65536) :
    transV l (.mk k s n it) = .mk k (Go.Proofs.Ytcmnlnamgnbemaa.umap b s) (transN l s (Go.Proofs.Ytcmnlnamgnbemaa.umap b s) k n (shapeSize s).toNat) (transI l s (Go.Proofs.Ytcmnlnamgnbemaa.umap b s) k it (shapeSize s).toNat) := by
  rw [transV, h.rdims hs hf, shapeSize_perm (h.perm hs)]
theorem pos_of_size {s : List Int} (hr : shapeRight s = true) (h : (shapeSize s).toNat ≠ 0) : Pos s ∧ shapeSize s = pp s := by
  have hp : Pos s := shapeSize_pos (by omega)
  refine ⟨hp, ?_⟩
  rw [shapeSize, if_pos hr, ← prodA_volOf, pp_prodA s 1 hp, Int.one_mul]
theorem PInv.list_perm {α : Type} {l b : List Int} {r : Nat} (h : PInv l b r) {s : List Int} (hs : s.length = r) (hr : shapeRight s = true) (n : List α) (d : α) (hn : (n.length : Int) = shapeSize s) :
    ((List.range (shapeSize s).toNat).map fun i => n.getD (offAt l s (Go.Proofs.Ytcmnlnamgnbemaa.umap b s) i).toNat d).Perm n := by
  have hN : (shapeSize s).toNat = n.length := by omega
  rw [hN]
  by_cases h0 : n.length = 0
  · have : n = [] := List.length_eq_zero_iff.1 h0
    subst this
    exact List.Perm.nil
  · obtain ⟨hp, hsz⟩ := pos_of_size hr (by omega)
    have hpm := h.perm hs
    have hp2 := h.pos hs hp
    have hr2 : shapeRight (Go.Proofs.Ytcmnlnamgnbemaa.umap b s) = true := by rw [shapeRight_perm hpm]; exact hr
    have epp : pp (Go.Proofs.Ytcmnlnamgnbemaa.umap b s) = pp s := by
      have := prodA_perm hpm 1
      rw [pp_prodA _ 1 hp2, pp_prodA _ 1 hp] at this
      omega
    refine map_perm n d (fun i => (offAt l s (Go.Proofs.Ytcmnlnamgnbemaa.umap b s) i).toNat) (fun i => (offAt b (Go.Proofs.Ytcmnlnamgnbemaa.umap b s) s i).toNat) (fun i hi => ?_) (fun i hi => ?_)
    · obtain ⟨a1, a2, a3⟩ := h.off hs hr hp i (by omega)
      exact ⟨by omega, by rw [a3]; simp⟩
    · have hb := h.symm.off (s := Go.Proofs.Ytcmnlnamgnbemaa.umap b s) (by rw [umap_length, h.lb]) hr2 hp2 i (by omega)
      rw [h.umap hs] at hb
      obtain ⟨a1, a2, a3⟩ := hb
      exact ⟨by omega, by rw [a3]; simp⟩
theorem PInv.right {l b : List Int} {r : Nat} (h : PInv l b r) {k : Int} {s n : List Int} {it : List Arr} (hs : s.length = r) (hr : rightV (.mk k s n it) = 0) : rightV (transV l (.mk k s n it)) = 0 := by
  obtain ⟨a1, a2, a3, a4, a5⟩ := right_parts hr
  have hf := rightGo_nonneg s 1 a3
  have hsr : shapeRight s = true := by simp [shapeRight, a2, a3]
  rw [h.trans hs hf]
  unfold rightV at hr ⊢
  rw [← hr]
  congr 1
  refine visitV_perm (h.perm hs) ?_ ?_
  · unfold transN
    split
    · rename_i h3
      rw [(a5 h3).1]
    · rename_i h3
      exact h.list_perm hs hsr n 0 (a4 h3).2
  · unfold transI
    split
    · rename_i h3
      exact h.list_perm hs hsr it default (a5 h3).2
    · rename_i h3
      rw [(a4 h3).1]
theorem PInv.list_back {α : Type} {l b : List Int} {r : Nat} (h : PInv l b r) {s : List Int} (hs : s.length = r) (hr : shapeRight s = true) (n : List α) (d : α) (hn : (n.length : Int) = shapeSize s) :
    ((List.range (shapeSize s).toNat).map fun i => ((List.range (shapeSize s).toNat).map fun i => n.getD (offAt l s (Go.Proofs.Ytcmnlnamgnbemaa.umap b s) i).toNat d).getD (offAt b (Go.Proofs.Ytcmnlnamgnbemaa.umap b s) s i).toNat d) = n := by
  have hN : (shapeSize s).toNat = n.length := by omega
  rw [hN]
  refine Eq.trans (List.map_congr_left fun i hi => ?_) (range_getD n d)
  rw [List.mem_range] at hi
  obtain ⟨hp, hsz⟩ := pos_of_size hr (by omega)
  have hpm := h.perm hs
  have hp2 := h.pos hs hp
  have hr2 : shapeRight (Go.Proofs.Ytcmnlnamgnbemaa.umap b s) = true := by rw [shapeRight_perm hpm]; exact hr
  have epp : pp (Go.Proofs.Ytcmnlnamgnbemaa.umap b s) = pp s := by
    have := prodA_perm hpm 1
    rw [pp_prodA _ 1 hp2, pp_prodA _ 1 hp] at this
    omega
  have hb := h.symm.off (s := Go.Proofs.Ytcmnlnamgnbemaa.umap b s) (by rw [umap_length, h.lb]) hr2 hp2 i (by omega)
  rw [h.umap hs] at hb
  obtain ⟨b1, b2, b3⟩ := hb
  have hlt : (offAt b (Go.Proofs.Ytcmnlnamgnbemaa.umap b s) s i).toNat < n.length := by omega
  simp only [List.getD, List.getElem?_map, List.getElem?_range hlt, Option.map_some, Option.getD_some]
  rw [b3]
  simp
/-- There and back. -/
theorem PInv.back {l b : List Int} {r : Nat} (h : PInv l b r) {k : Int} {s n : List Int} {it : List Arr} (hs : s.length = r) (hr : rightV (.mk k s n it) = 0) : transV b (transV l (.mk k s n it)) = .mk k s n it := by
  obtain ⟨a1, a2, a3, a4, a5⟩ := right_parts hr
  have hf := rightGo_nonneg s 1 a3
  have hsr : shapeRight s = true := by simp [shapeRight, a2, a3]
  have hpm := h.perm hs
  rw [h.trans hs hf, h.symm.trans (by rw [umap_length, h.lb]) (fun f hf2 => hf f (hpm.mem_iff.1 hf2)), h.umap hs, shapeSize_perm hpm]
  congr 1
  · by_cases h3 : k = 3
    · simp [transN, h3, (a5 h3).1]
    · have := h.list_back hs hsr n 0 (a4 h3).2
      simp only [transN, if_neg h3]
      exact this
  · by_cases h3 : k = 3
    · have := h.list_back hs hsr it default (a5 h3).2
      simp only [transI, if_pos h3]
      exact this
    · simp [transI, h3, (a4 h3).1]

/-- The identity. -/
def idL (r : Nat) : List Int := (List.range r).map fun (i : Nat) => (i : Int)
theorem idL_length (r : Nat) : (idL r).length = r := by simp [idL]
theorem idL_getD (r i : Nat) (h : i < r) : (idL r).getD i 0 = i := by simp [idL, List.getD, h]
theorem idL_inv (r : Nat) : PInv (idL r) (idL r) r := by
  have h : ∀ i, i < r → (idL r).getD i 0 = i := fun i hi => idL_getD r i hi
  refine ⟨idL_length r, idL_length r, fun i hi => by rw [h i hi]; omega, fun i hi => by rw [h i hi]; omega, fun i hi => ?_, fun i hi => ?_⟩ <;> (rw [h i hi]; simp only [Int.toNat_natCast]; exact h i hi)
theorem idL_umap (r : Nat) {t : List Int} (ht : t.length = r) : umap (idL r) t = t := by
  refine ext_getD (by rw [umap_length, idL_length, ht]) fun j hj => ?_
  rw [umap_length, idL_length] at hj
  rw [umap_getD _ _ _ (by rw [idL_length]; exact hj), idL_getD _ _ hj]
  simp
theorem trans_id {r : Nat} {k : Int} {s n : List Int} {it : List Arr} (hs : s.length = r) (hr : rightV (.mk k s n it) = 0) : transV (idL r) (.mk k s n it) = .mk k s n it := by
  obtain ⟨a1, a2, a3, a4, a5⟩ := right_parts hr
  have hf := rightGo_nonneg s 1 a3
  have hsr : shapeRight s = true := by simp [shapeRight, a2, a3]
  have key : ∀ i : Nat, i < (shapeSize s).toNat → (offAt (idL r) s s i).toNat = i := by
    intro i hi
    obtain ⟨hp, hsz⟩ := pos_of_size hsr (by omega)
    have ht : Within s (idxOf s i) := idxOf_within _ _ a3 (by omega) (by rw [pp_prodA _ 1 hp]; omega)
    unfold offAt
    rw [idL_umap r (by rw [idxOf_length, hs]), offV_W hsr ht, W_idxOf _ _ hp (by omega) (by omega)]
    simp
  rw [(idL_inv r).trans hs hf, idL_umap r hs]
  congr 1
  · by_cases h3 : k = 3
    · simp [transN, h3, (a5 h3).1]
    · have hN : (shapeSize s).toNat = n.length := by have := (a4 h3).2; omega
      simp only [transN, if_neg h3]
      refine Eq.trans (List.map_congr_left fun i hi => ?_) (Eq.trans (by rw [hN]) (range_getD n 0))
      rw [key i (List.mem_range.1 hi)]
  · by_cases h3 : k = 3
    · have hN : (shapeSize s).toNat = it.length := by have := (a5 h3).2; omega
      simp only [transI, if_pos h3]
      refine Eq.trans (List.map_congr_left fun i hi => ?_) (Eq.trans (by rw [hN]) (range_getD it default))
      rw [key i (List.mem_range.1 hi)]
    · simp [transI, h3, (a4 h3).1]
theorem rev_inv (r : Nat) : PInv (revAxes r) (revAxes r) r := by
  have h : ∀ i, i < r → (revAxes r).getD i 0 = (r : Int) - 1 - i := fun i hi => revAxes_getD r i hi
  have h2 : ∀ i, i < r → (revAxes r).getD ((revAxes r).getD i 0).toNat 0 = i := fun i hi => by
    rw [h i hi, h _ (by omega)]; omega
  exact ⟨revAxes_length r, revAxes_length r, fun i hi => by rw [h i hi]; omega, fun i hi => by rw [h i hi]; omega, h2, h2⟩

/-- A vector of small numbers is right. -/
def vecV (l : List Int) : Arr := .mk 1 [(l.length : Int)] l []
theorem vec_right {l : List Int} (h8 : l.length ≤ 8) (hl : ∀ a ∈ l, 0 ≤ a ∧ a < 8) : rightV (vecV l) = 0 := by
  have hg : rightGo 1 [(l.length : Int)] = true := by
    simp only [rightGo]
    rw [if_neg (by omega)]
    split
    · rfl
    · rw [if_neg (by omega)]
  have hs : shapeSize [(l.length : Int)] = l.length := by
    unfold shapeSize
    rw [if_pos (by simp [shapeRight, hg]), ← prodA_volOf]
    simp only [prodA]
    split <;> omega
  unfold rightV vecV
  rw [visitV]
  have hf : formV (.mk 1 [(l.length : Int)] l []) = 0 := by
    unfold formV formOf
    simp only [List.length_singleton, hs]
    simp [isNeg, shapeRight, hg]
  rw [if_neg (by rw [hf]; simp)]
  have hb : ¬ l.any (badNum 1) = true := by
    rw [Bool.not_eq_true, List.any_eq_false]
    intro x hx
    have := hl x hx
    simp [badNum, isNum]
    omega
  rw [if_neg hb, itemsV]
  simp only [List.length_nil]
  rw [if_neg (by omega)]
theorem axes_perm {l b : List Int} {r : Nat} (h : PInv l b r) {k : Int} {s n : List Int} {it : List Arr} (hs : s.length = r) (hr : rightV (.mk k s n it) = 0) : axesV (vecV l) (.mk k s n it) = (transV l (.mk k s n it), 0) := by
  obtain ⟨a1, a2, a3, a4, a5⟩ := right_parts hr
  have hf := rightGo_nonneg s 1 a3
  have hlen : l.length = s.length := by rw [h.ll, hs]
  have hv : rightV (vecV l) = 0 := vec_right (by omega) (fun a ha => by have := h.mem a ha; omega)
  have hw : wrongV (vecV l) (.mk k s n it) = 0 := by
    unfold wrongV
    rw [if_neg (by simp [hv, hr])]
    unfold vecV
    simp only [List.length_singleton]
    rw [if_neg (by omega), if_neg (by omega), if_neg (by omega), if_neg]
    rw [Bool.not_eq_true, List.any_eq_false]
    intro x hx
    have := h.mem x hx
    simp [outR]
    omega
  unfold axesV
  rw [if_neg (by simp [hw])]
  unfold vecV
  simp only
  rw [if_neg (by rw [dims_compl hlen (fun a ha => (h.mem a ha).1) hf, h.compl]; simp)]
  rw [trans_moved hlen (fun a ha => by have := h.mem a ha; omega) a2 a3 h.compl]
theorem reverse_trans {k : Int} {s n : List Int} {it : List Arr} (hr : rightV (.mk k s n it) = 0) : reverseV (.mk k s n it) = transV (revAxes s.length) (.mk k s n it) := by
  rw [← rreverse_eq]
  unfold rreverseV
  rw [rright_eq, if_neg (by simp [hr])]
theorem trans_shape_length {l b : List Int} {r : Nat} (h : PInv l b r) {k k' : Int} {s n s' n' : List Int} {it it' : List Arr} (hs : s.length = r) (hf : ∀ f ∈ s, 0 ≤ f ∧ f ≤ 65536) (e : transV l (.mk k s n it) = .mk k' s' n' it') : s'.length = r := by
  rw [h.trans hs hf] at e
  cases e
  rw [umap_length, h.lb]
theorem reverse_twice {k : Int} {s n : List Int} {it : List Arr} (hr : rightV (.mk k s n it) = 0) : reverseV (reverseV (.mk k s n it)) = .mk k s n it := by
  obtain ⟨a1, a2, a3, a4, a5⟩ := right_parts hr
  have hf := rightGo_nonneg s 1 a3
  have h := rev_inv s.length
  have hb := h.back rfl hr
  have hq := h.right rfl hr
  rw [reverse_trans hr]
  generalize ht : transV (revAxes s.length) (.mk k s n it) = t at *
  obtain ⟨k', s', n', it'⟩ := t
  have hl := trans_shape_length h rfl hf ht
  rw [reverse_trans hq, hl]
  exact hb
theorem axes_back {l b : List Int} {r : Nat} (h : PInv l b r) {k : Int} {s n : List Int} {it : List Arr} (hs : s.length = r) (hr : rightV (.mk k s n it) = 0) : axesV (vecV b) (transV l (.mk k s n it)) = (.mk k s n it, 0) := by
  obtain ⟨a1, a2, a3, a4, a5⟩ := right_parts hr
  have hf := rightGo_nonneg s 1 a3
  have hb := h.back hs hr
  have hq := h.right hs hr
  generalize ht : transV l (.mk k s n it) = t at *
  obtain ⟨k', s', n', it'⟩ := t
  have hl := trans_shape_length h hs hf ht
  rw [axes_perm h.symm hl hq, hb]
end Go.Proofs.Ytcmnlnamgnbemaa
