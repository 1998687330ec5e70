/-
  PLAIN LAW: the reference's transposition is the program's; so are Reverse and Axes.
-/
import Derived.Test.YtcmnlnamgnbemaaRLaw
import Derived.Test.YtcmnlnamgnbemaaRAxes
namespace Go.Proofs.Ytcmnlnamgnbemaa
set_option linter.unusedSimpArgs false
set_option linter.unusedVariables false

/-! ### Counting on is counting -/
def pp : List Int → Int
  | [] => 1
  | d :: r => d * pp r
def W : List Int → List Int → Int
  | _ :: r, x :: q => x * pp r + W r q
  | _, _ => 0
def Pos (s : List Int) : Prop := ∀ j, j < s.length → 0 < s.getD j 0
theorem Pos.head {d : Int} {r : List Int} (h : Pos (d :: r)) : 0 < d := by simpa using h 0 (by simp)
theorem Pos.tail {d : Int} {r : List Int} (h : Pos (d :: r)) : Pos r := fun j hj => by simpa using h (j + 1) (by simpa using hj)
theorem Within.tail {d x : Int} {r q : List Int} (h : Within (d :: r) (x :: q)) : Within r q := ⟨by simpa using h.1, fun j hj => by simpa using h.2 (j + 1) (by simpa using hj)⟩
theorem Within.head {d x : Int} {r q : List Int} (h : Within (d :: r) (x :: q)) : 0 ≤ x ∧ x < d := by simpa using h.2 0 (by simp)
theorem pp_pos : ∀ (s : List Int), Pos s → 0 < pp s
  | [], _ => by simp [pp]
  | d :: r, h => by rw [pp]; exact Int.mul_pos h.head (pp_pos r h.tail)
theorem pp_prodA : ∀ (s : List Int) (p : Int), Pos s → prodA p s = p * pp s
  | [], p, _ => by simp [prodA, pp]
  | d :: r, p, h => by
    have := h.head
    rw [prodA, if_neg (by omega), pp_prodA r _ h.tail, pp, Int.mul_assoc]
theorem W_bd : ∀ (s t : List Int), Pos s → Within s t → 0 ≤ W s t ∧ W s t < pp s
  | [], [], _, _ => by simp [W, pp]
  | [], _ :: _, _, h => by have := h.1; simp at this
  | _ :: _, [], _, h => by have := h.1; simp at this
  | d :: r, x :: q, hp, h => by
    rw [W, pp]
    have h1 := W_bd r q hp.tail h.tail
    have h2 := h.head
    have h3 := pp_pos r hp.tail
    have e1 : 0 ≤ x * pp r := Int.mul_nonneg h2.1 (by omega)
    have e2 : x * pp r ≤ (d - 1) * pp r := Int.mul_le_mul_of_nonneg_right (by omega) (by omega)
    rw [Int.sub_mul, Int.one_mul] at e2
    omega
theorem W_set : ∀ (s t : List Int) (i : Nat) (v : Int), t.length = s.length → i < t.length → W s (t.set i v) = W s t + (v - t.getD i 0) * pp (s.drop (i + 1))
  | [], t, i, v, h, hi => by simp at h; subst h; simp at hi
  | _ :: _, [], _, _, h, _ => by simp at h
  | d :: r, x :: q, 0, v, h, hi => by
    simp only [List.set_cons_zero, W, List.getD_cons_zero, List.drop_succ_cons, List.drop_zero, Int.sub_mul]
    omega
  | d :: r, x :: q, i + 1, v, h, hi => by
    simp only [List.set_cons_succ, W, List.getD_cons_succ, List.drop_succ_cons]
    rw [W_set r q i v (by simpa using h) (by simpa using hi)]
    omega
theorem pp_drop {s : List Int} {i : Nat} (h : i < s.length) : pp (s.drop i) = s.getD i 0 * pp (s.drop (i + 1)) := by
  rw [drop_getD h, pp]
theorem bump_W (s : List Int) (hp : Pos s) : ∀ (i : Nat) (t : List Int), i ≤ s.length → Within s t → W s t + pp (s.drop i) < pp s → W s (bump s i t) = W s t + pp (s.drop i)
  | 0, t, _, ht, h => by
    have := (W_bd s t hp ht).1
    rw [List.drop_zero] at h
    omega
  | i + 1, t, hi, ht, h => by
    have hl : i < t.length := by rw [ht.1]; omega
    have hti := ht.2 i (by omega)
    rw [bump]
    split
    · rw [W_set s t i _ ht.1 hl]
      have e : t.getD i 0 + 1 - t.getD i 0 = 1 := by omega
      rw [e, Int.one_mul]
    · rename_i hc
      have hx : t.getD i 0 = s.getD i 0 - 1 := by omega
      have e1 : W s (t.set i 0) + pp (s.drop i) = W s t + pp (s.drop (i + 1)) := by
        rw [W_set s t i 0 ht.1 hl, pp_drop (show i < s.length by omega), hx]
        have : (0 - (s.getD i 0 - 1)) * pp (s.drop (i + 1)) = pp (s.drop (i + 1)) - s.getD i 0 * pp (s.drop (i + 1)) := by
          rw [show (0 - (s.getD i 0 - 1)) = 1 - s.getD i 0 by omega, Int.sub_mul, Int.one_mul]
        omega
      have hw : Within s (t.set i 0) := ⟨by rw [List.length_set]; exact ht.1, fun j hj => by
        rw [getD_set hl]
        have := ht.2 j hj
        have := hp j hj
        split <;> omega⟩
      rw [bump_W s hp i _ (by omega) hw (by omega), e1]
theorem idxOf_W : ∀ (s t : List Int), Pos s → Within s t → idxOf s (W s t) = t
  | [], [], _, _ => rfl
  | [], _ :: _, _, h => by have := h.1; simp at this
  | _ :: _, [], _, h => by have := h.1; simp at this
  | d :: r, x :: q, hp, h => by
    have h1 := W_bd r q hp.tail h.tail
    have h3 := pp_pos r hp.tail
    rw [idxOf, W, pp_prodA r 1 hp.tail, Int.one_mul]
    have e1 : (x * pp r + W r q) / pp r = x := by
      rw [Int.add_comm, Int.add_mul_ediv_right _ _ (by omega), Int.ediv_eq_zero_of_lt h1.1 h1.2, Int.zero_add]
    have e2 : (x * pp r + W r q) % pp r = W r q := by
      rw [Int.add_comm, Int.add_mul_emod_self_right, Int.emod_eq_of_lt h1.1 h1.2]
    rw [e1, e2, idxOf_W r q hp.tail h.tail]

theorem movedGo_range {α : Type} (val : List Int → α) (s : List Int) (hp : Pos s) : ∀ (n : Nat) (t : List Int), Within s t → W s t + n ≤ pp s →
    movedGo val s n t = (List.range n).map fun (k : Nat) => val (idxOf s (W s t + k))
  | 0, _, _, _ => rfl
  | n + 1, t, ht, h => by
    rw [movedGo, List.range_succ_eq_map, List.map_cons, List.map_map]
    congr 1
    · rw [show (W s t + ((0 : Nat) : Int)) = W s t by omega, idxOf_W s t hp ht]
    · rcases Nat.eq_zero_or_pos n with rfl | hn
      · rfl
      · have hb := bump_W s hp s.length t (Nat.le_refl _) ht (by rw [List.drop_length, pp]; omega)
        rw [List.drop_length, pp] at hb
        rw [ht.1, movedGo_range val s hp n _ (bump_within s hp _ _ (Nat.le_refl _) ht) (by omega), hb]
        apply List.map_congr_left
        intro k _
        simp only [Function.comp]
        congr 2
        omega
theorem W_zero : ∀ (s : List Int), W s (List.replicate s.length 0) = 0
  | [] => rfl
  | d :: r => by rw [List.length_cons, List.replicate_succ, W, W_zero r]; simp

/-- From the beginning. -/
theorem movedGo_all {α : Type} (val : List Int → α) (s : List Int) : movedGo val s (shapeSize s).toNat (List.replicate s.length 0) = (List.range (shapeSize s).toNat).map fun (k : Nat) => val (idxOf s k) := by
  by_cases h : 0 < shapeSize s
  · have hp : Pos s := shapeSize_pos h
    have hr : shapeRight s = true := by
      unfold shapeSize at h
      split at h
      · assumption
      · omega
    have he : shapeSize s = pp s := by
      rw [shapeSize, if_pos hr, ← prodA_volOf, pp_prodA s 1 hp, Int.one_mul]
    rw [movedGo_range val s hp _ _ (within_zero s hp) (by rw [W_zero, he]; have := pp_pos s hp; omega)]
    simp [W_zero]
  · have h0 : (shapeSize s).toNat = 0 := by omega
    rw [h0]; rfl

/-! ### The place of an index -/
theorem offGo_at : ∀ (l s t : List Int) (acc : Int), l.length = s.length → Within s (umap l t) → offGo acc s (umap l t) = some (atGo l s t acc)
  | [], [], _, acc, _, _ => by simp [umap, offGo, atGo]
  | [], _ :: _, _, _, h, _ => by simp at h
  | _ :: _, [], _, _, h, _ => by simp at h
  | a :: r, d :: q, t, acc, h, hw => by
    have hm : umap (a :: r) t = t.getD a.toNat 0 :: umap r t := rfl
    rw [hm] at hw ⊢
    have := hw.head
    rw [offGo, if_neg (by omega), atGo]
    exact offGo_at r q t _ (by simpa using h) hw.tail
theorem offV_at {l s t : List Int} (hr : shapeRight s = true) (h : l.length = s.length) (hw : Within s (umap l t)) : (offV s (umap l t)).1 = atGo l s t 0 := by
  unfold offV
  rw [if_neg (by simp [hr, umap_length, h]), offGo_at l s t 0 h hw]

/-! ### The dimensions -/
/-- What dimsGo makes of place j. -/
def dAt (j : Nat) : List Int → List Int → Int → Int
  | a :: r, f :: q, v => dAt j r q (if a.toNat = j ∧ (v < 0 ∨ f < v) then f else v)
  | _, _, v => v
theorem padTo_getD' {out : List Int} {n j : Nat} : (padTo out n).getD j (-1) = out.getD j (-1) := by
  unfold padTo
  simp only [List.getD]
  by_cases h : j < out.length
  · rw [List.getElem?_append_left h]
  · rw [List.getElem?_append_right (by omega), List.getElem?_eq_none (show out.length ≤ j by omega)]
    by_cases h2 : j - out.length < n - out.length
    · rw [List.getElem?_replicate, if_pos h2]; rfl
    · rw [List.getElem?_replicate, if_neg h2]
theorem getD_def {l : List Int} {j : Nat} (a b : Int) (h : j < l.length) : l.getD j a = l.getD j b := by simp [List.getD, h]
theorem dimsPut_at' (out : List Int) (a f : Int) (j : Nat) : (dimsPut out a f).getD j (-1) = if a.toNat = j ∧ (out.getD j (-1) < 0 ∨ f < out.getD j (-1)) then f else out.getD j (-1) := by
  have hl : a.toNat < (padTo out (a.toNat + 1)).length := by rw [padTo_length]; omega
  have hp := @padTo_getD' out (a.toNat + 1)
  unfold dimsPut
  rw [getD_def 0 (-1) hl, hp]
  by_cases hc : out.getD a.toNat (-1) < 0 ∨ f < out.getD a.toNat (-1)
  · rw [if_pos hc]
    by_cases hj : a.toNat = j
    · subst hj
      rw [if_pos ⟨rfl, hc⟩]
      simp [List.getD, hl]
    · rw [if_neg (fun h => hj h.1), ← hp (j := j)]
      simp only [List.getD, List.getElem?_set, if_neg hj]
  · rw [if_neg hc, hp]
    rw [if_neg]
    rintro ⟨rfl, h⟩
    exact hc h
theorem dimsGo_at : ∀ (l s out : List Int) (j : Nat), (dimsGo l s out).getD j (-1) = dAt j l s (out.getD j (-1))
  | [], _, _, _ => rfl
  | _ :: _, [], _, _ => rfl
  | a :: r, f :: q, out, j => by rw [dimsGo, dAt, dimsGo_at r q _ j, dimsPut_at']
theorem dimsGo_length : ∀ (l s out : List Int), l.length = s.length → (∀ a ∈ l, 0 ≤ a) → ((dimsGo l s out).length : Int) = axGo out.length l
  | [], _, _, _, _ => rfl
  | _ :: _, [], _, h, _ => by simp at h
  | a :: r, f :: q, out, h, ha => by
    rw [dimsGo, axGo, dimsGo_length r q _ (by simpa using h) (fun x hx => ha x (by simp [hx])), dimsPut_length]
    have := ha a (by simp)
    congr 1
    omega
theorem dAt_pos (j : Nat) : ∀ (l s : List Int) (v : Int), 0 ≤ v → (∀ a ∈ l, 0 ≤ a) → (∀ f ∈ s, 0 ≤ f) → dAt j l s v = rdimAt (j : Int) l s v
  | [], _, _, _, _, _ => by unfold dAt rdimAt; rfl
  | _ :: _, [], _, _, _, _ => by unfold dAt rdimAt; rfl
  | a :: r, f :: q, v, hv, ha, hf => by
    rw [dAt, rdimAt]
    have h1 := ha a (by simp)
    have h2 := hf f (by simp)
    have e : (if a.toNat = j ∧ (v < 0 ∨ f < v) then f else v) = if a = (j : Int) then min v f else v := by
      by_cases hj : a = (j : Int)
      · rw [if_pos hj]; split <;> omega
      · rw [if_neg hj, if_neg (fun h => hj (by omega))]
    rw [e]
    exact dAt_pos j r q _ (by split <;> omega) (fun x hx => ha x (by simp [hx])) (fun x hx => hf x (by simp [hx]))
theorem dAt_mem (j : Nat) : ∀ (l s : List Int), l.length = s.length → (∀ a ∈ l, 0 ≤ a) → (∀ f ∈ s, 0 ≤ f ∧ f ≤ 65536) → (j : Int) ∈ l → dAt j l s (-1) = rdimAt (j : Int) l s 65536
  | [], _, _, _, _, h => by cases h
  | _ :: _, [], h, _, _, _ => by simp at h
  | a :: r, f :: q, h, ha, hf, hm => by
    rw [dAt, rdimAt]
    have h1 := ha a (by simp)
    have h2 := hf f (by simp)
    by_cases hj : a = (j : Int)
    · rw [if_pos ⟨by omega, .inl (by omega)⟩, if_pos hj, show min (65536 : Int) f = f by omega]
      exact dAt_pos j r q f h2.1 (fun x hx => ha x (by simp [hx])) (fun x hx => (hf x (by simp [hx])).1)
    · rw [if_neg (fun h => hj (by omega)), if_neg hj]
      refine dAt_mem j r q (by simpa using h) (fun x hx => ha x (by simp [hx])) (fun x hx => hf x (by simp [hx])) ?_
      rcases List.mem_cons.1 hm with e | e
      · exact absurd e.symm hj
      · exact e
theorem dAt_not (j : Nat) : ∀ (l s : List Int) (v : Int), (∀ a ∈ l, 0 ≤ a) → (j : Int) ∉ l → dAt j l s v = v
  | [], _, _, _, _ => rfl
  | _ :: _, [], _, _, _ => rfl
  | a :: r, f :: q, v, ha, hm => by
    have h1 := ha a (by simp)
    have hj : a ≠ (j : Int) := fun e => hm (by simp [e])
    rw [dAt, if_neg (fun h => hj (by omega))]
    exact dAt_not j r q v (fun x hx => ha x (by simp [hx])) (fun e => hm (by simp [e]))

theorem compl_iff {l : List Int} : complV l = true ↔ ∀ j : Nat, j < (axGo 0 l).toNat → (j : Int) ∈ l := by
  unfold complV
  rw [List.all_eq_true]
  refine ⟨fun h j hj => ?_, fun h j hj => ?_⟩
  · have := h j (List.mem_range.2 hj)
    rw [List.any_eq_true] at this
    obtain ⟨a, ha, e⟩ := this
    rw [beq_iff_eq] at e
    rw [← e]; exact ha
  · rw [List.any_eq_true]
    exact ⟨(j : Int), h j (List.mem_range.1 hj), by simp⟩

theorem dims_compl {l s : List Int} (hl : l.length = s.length) (ha : ∀ a ∈ l, 0 ≤ a) (hf : ∀ f ∈ s, 0 ≤ f ∧ f ≤ 65536) : ((dimsGo l s []).any fun d => -1 == d) = !complV l := by
  have hlen : ((dimsGo l s []).length : Int) = axGo 0 l := dimsGo_length l s [] hl ha
  have h0 : ∀ j : Nat, ([] : List Int).getD j (-1) = -1 := fun _ => rfl
  rw [Bool.eq_iff_iff, Bool.not_eq_true', List.any_eq_true]
  constructor
  · rintro ⟨d, hd, e⟩
    cases hc : complV l with
    | false => rfl
    | true =>
      exfalso
      rw [compl_iff] at hc
      obtain ⟨j, hj, hdj⟩ := List.mem_iff_getElem.1 hd
      have h1 := dimsGo_at l s [] j
      rw [h0, dAt_mem j l s hl ha hf (hc j (by omega))] at h1
      have h2 := (rdimAt_bd (j : Int) l s 65536 (by omega) (fun f hf' => (hf f hf').1)).1
      simp only [List.getD, hj, List.getElem?_eq_getElem, Option.getD_some] at h1
      rw [beq_iff_eq] at e
      omega
  · intro hc
    have : ¬ ∀ j : Nat, j < (axGo 0 l).toNat → (j : Int) ∈ l := fun h => by rw [compl_iff.2 h] at hc; cases hc
    have hex : ∃ j : Nat, j < (axGo 0 l).toNat ∧ (j : Int) ∉ l := by
      refine Classical.byContradiction fun hne => this fun j hj => ?_
      exact Classical.byContradiction fun hm => hne ⟨j, hj, hm⟩
    obtain ⟨j, hj, hm⟩ := hex
    have h1 := dimsGo_at l s [] j
    rw [dAt_not j l s _ ha hm] at h1
    have hjl : j < (dimsGo l s []).length := by omega
    refine ⟨(dimsGo l s [])[j], List.getElem_mem hjl, ?_⟩
    simp only [List.getD, hjl, List.getElem?_eq_getElem, Option.getD_some, List.getElem?_nil, Option.getD_none] at h1
    rw [h1]; rfl

theorem dims_rdims {l s : List Int} (hl : l.length = s.length) (ha : ∀ a ∈ l, 0 ≤ a) (hf : ∀ f ∈ s, 0 ≤ f ∧ f ≤ 65536) (hc : complV l = true) : dimsGo l s [] = rdims l s (axGo 0 l).toNat := by
  have hlen : ((dimsGo l s []).length : Int) = axGo 0 l := dimsGo_length l s [] hl ha
  rw [compl_iff] at hc
  apply List.ext_getElem?
  intro j
  by_cases hj : j < (dimsGo l s []).length
  · have hj2 : j < (axGo 0 l).toNat := by omega
    have h1 := dimsGo_at l s [] j
    have h0 : ([] : List Int).getD j (-1) = -1 := rfl
    rw [h0, dAt_mem j l s hl ha hf (hc j hj2)] at h1
    have h2 := rdims_getD l s (axGo 0 l).toNat j hj2
    have hj3 : j < (rdims l s (axGo 0 l).toNat).length := by rw [rdims_length]; exact hj2
    simp only [List.getD, hj, hj3, List.getElem?_eq_getElem, Option.getD_some] at h1 h2
    rw [List.getElem?_eq_getElem hj, List.getElem?_eq_getElem hj3, h1, h2]
  · rw [List.getElem?_eq_none (by omega), List.getElem?_eq_none (by rw [rdims_length]; omega)]

/-! ### The law -/
theorem trans_moved {l s n : List Int} {k : Int} {it : List Arr} (hl : l.length = s.length) (ha : ∀ a ∈ l, 0 ≤ a ∧ a < s.length) (h8 : s.length ≤ 8) (hr : rightGo 1 s = true) (hc : complV l = true) :
    transV l (.mk k s n it) = movedV l (.mk k s n it) (dimsGo l s []) := by
  have hf := rightGo_nonneg s 1 hr
  have hd := dims_rdims hl (fun a h => (ha a h).1) hf hc
  have hsr : shapeRight s = true := by simp [shapeRight, h8, hr]
  rw [transV, movedV, ← hd]
  have hab := axGo_bd l 0 8 (by omega) (by omega) (fun a h => by have := ha a h; omega)
  have hoff : ∀ i : Nat, i < (shapeSize (dimsGo l s [])).toNat → offAt l s (dimsGo l s []) i = atGo l s (idxOf (dimsGo l s []) i) 0 := by
    intro i hi
    have h0 : 0 < shapeSize (dimsGo l s []) := by omega
    have hrr : shapeRight (dimsGo l s []) = true := by
      unfold shapeSize at h0
      split at h0
      · assumption
      · omega
    have hw : Within (dimsGo l s []) (idxOf (dimsGo l s []) i) := idxOf_within _ _ (shapeRight_go hrr).1 (by omega) (by
      have : shapeSize (dimsGo l s []) = prodA 1 (dimsGo l s []) := by rw [shapeSize, if_pos hrr, prodA_volOf]
      omega)
    rw [hd] at hw ⊢
    refine offV_at hsr hl (umap_within (ax := (axGo 0 l).toNat) hl (fun a h => ⟨(ha a h).1, ?_⟩) (fun f h => (hf f h).1) hw)
    have := axGo_lt l 0 a h
    omega
  by_cases h3 : k = 3
  · rw [if_pos (by simp [h3])]
    unfold transN transI
    rw [if_pos h3, if_pos h3, movedGo_all]
    congr 1
    apply List.map_congr_left
    intro i hi
    rw [hoff i (List.mem_range.1 hi)]
  · rw [if_neg (by simpa using h3)]
    unfold transN transI
    rw [if_neg h3, if_neg h3, movedGo_all]
    congr 1
    apply List.map_congr_left
    intro i hi
    rw [hoff i (List.mem_range.1 hi)]

theorem revAxes_getElem {r j : Nat} (h : j < r) : ((r : Int) - 1 - j) ∈ revAxes r := by
  simp only [revAxes, List.mem_map, List.mem_range]
  exact ⟨j, h, rfl⟩
theorem compl_rev (r : Nat) : complV (revAxes r) = true := by
  rw [compl_iff]
  intro j hj
  have h1 := axGo_bd (revAxes r) 0 r (by omega) (by omega) (fun a h => (revAxes_mem h).2)
  have := revAxes_getElem (r := r) (j := r - 1 - j) (by omega)
  rw [show (r : Int) - 1 - ((r - 1 - j : Nat) : Int) = j by omega] at this
  exact this
theorem rreverse_eq (y : Arr) : rreverseV y = reverseV y := by
  obtain ⟨k, s, n, it⟩ := y
  unfold rreverseV reverseV
  rw [rright_eq]
  by_cases h : rightV (.mk k s n it) ≠ 0
  · rw [if_pos h, if_pos h]
  · rw [if_neg h, if_neg h]
    obtain ⟨_, h8, hr, _, _⟩ := right_parts (by simpa using h)
    exact trans_moved (revAxes_length _) (fun a ha => revAxes_mem ha) h8 hr (compl_rev _)
theorem raxes_eq (x y : Arr) : raxesV x y = axesV x y := by
  obtain ⟨kx, sx, nx, ix⟩ := x
  obtain ⟨ky, sy, ny, iy⟩ := y
  unfold raxesV axesV
  rw [rright_eq, rright_eq]
  have hw : wrongV (.mk kx sx nx ix) (.mk ky sy ny iy) = if rightV (.mk kx sx nx ix) ≠ 0 ∨ rightV (.mk ky sy ny iy) ≠ 0 then 1 else if kx ≠ 1 then 14 else if 1 < sx.length then 15 else if nx.length ≠ sy.length then 16 else if nx.any (outR sy.length) = true then 18 else 0 := rfl
  by_cases h1 : rightV (.mk kx sx nx ix) ≠ 0
  · rw [if_pos h1]
    rw [if_pos (.inl h1)] at hw
    rw [hw, if_pos (by decide)]
  rw [if_neg h1]
  by_cases h2 : rightV (.mk ky sy ny iy) ≠ 0
  · rw [if_pos h2]
    rw [if_pos (.inr h2)] at hw
    rw [hw, if_pos (by decide)]
  rw [if_neg h2]
  rw [if_neg (by rintro (h | h); exact h1 h; exact h2 h)] at hw
  dsimp only
  by_cases h3 : kx ≠ 1
  · rw [if_pos h3] at hw ⊢
    rw [hw, if_pos (by decide)]
  rw [if_neg h3] at hw ⊢
  by_cases h4 : 1 < sx.length
  · rw [if_pos h4] at hw ⊢
    rw [hw, if_pos (by decide)]
  rw [if_neg h4] at hw ⊢
  by_cases h5 : nx.length ≠ sy.length
  · rw [if_pos h5] at hw ⊢
    rw [hw, if_pos (by decide)]
  rw [if_neg h5] at hw ⊢
  by_cases h6 : nx.any (outR sy.length) = true
  · rw [if_pos h6] at hw ⊢
    rw [hw, if_pos (by decide)]
  rw [if_neg h6] at hw ⊢
  obtain ⟨_, h8, hr, _, _⟩ := right_parts (show rightV (.mk ky sy ny iy) = 0 by simpa using h2)
  have hl : nx.length = sy.length := by simpa using h5
  have ha : ∀ a ∈ nx, 0 ≤ a ∧ a < sy.length := fun a hm => by
    have : ¬ outR sy.length a = true := fun hc => h6 (List.any_eq_true.2 ⟨a, hm, hc⟩)
    simp only [outR, Bool.or_eq_true, decide_eq_true_eq] at this
    omega
  rw [hw, if_neg (show ¬ (0 : Int) ≠ 0 by decide), dims_compl hl (fun a h => (ha a h).1) (rightGo_nonneg sy 1 hr)]
  cases hc : complV nx with
  | false => rfl
  | true =>
    rw [if_neg (by simp), if_neg (by simp), trans_moved hl ha h8 hr hc]
end Go.Proofs.Ytcmnlnamgnbemaa
