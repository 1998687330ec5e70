/-
  PLAIN: what cell.Join says: the common shape, the error, the joined array.
-/
import Derived.Test.YtgeppialbkijiaaOdo
import Derived.Test.YtgeppialbkijiaaR02a
import Derived.Test.YtgeppialbkijiaaPart
import Derived.Test.YtgeppialbkijiaaRVal
namespace Go.Proofs.Ytgeppialbkijiaa
set_option linter.unusedSimpArgs false
set_option linter.unusedVariables false

/-! ### Counting on is counting -/
def pp : List Int → Int
  | [] => 1
  | d :: r => d * pp r
def W : List Int → List Int → Int
  | _ :: r, x :: q => x * pp r + W r q
  | _, _ => 0
def Pos (s : List Int) : Prop := ∀ j, j < s.length → 0 < s.getD j 0
theorem Pos.head {d : Int} {r : List Int} (h : Pos (d :: r)) : 0 < d := by simpa using h 0 (by simp)
theorem Pos.tail {d : Int} {r : List Int} (h : Pos (d :: r)) : Pos r := fun j hj => by simpa using h (j + 1) (by simpa using hj)
theorem Within.tail {d x : Int} {r q : List Int} (h : Within (d :: r) (x :: q)) : Within r q := ⟨by simpa using h.1, fun j hj => by simpa using h.2 (j + 1) (by simpa using hj)⟩
theorem Within.head {d x : Int} {r q : List Int} (h : Within (d :: r) (x :: q)) : 0 ≤ x ∧ x < d := by simpa using h.2 0 (by simp)
theorem pp_pos : ∀ (s : List Int), Pos s → 0 < pp s
  | [], _ => by simp [pp]
  | d :: r, h => by rw [pp]; exact Int.mul_pos h.head (pp_pos r h.tail)
theorem pp_prodA : ∀ (s : List Int) (p : Int), Pos s → prodA p s = p * pp s
  | [], p, _ => by simp [prodA, pp]
  | d :: r, p, h => by
    have := h.head
    rw [prodA, if_neg (by omega), pp_prodA r _ h.tail, pp, Int.mul_assoc]
theorem W_bd : ∀ (s t : List Int), Pos s → Within s t → 0 ≤ W s t ∧ W s t < pp s
  | [], [], _, _ => by simp [W, pp]
  | [], _ :: _, _, h => by have := h.1; simp at this
  | _ :: _, [], _, h => by have := h.1; simp at this
  | d :: r, x :: q, hp, h => by
    rw [W, pp]
    have h1 := W_bd r q hp.tail h.tail
    have h2 := h.head
    have h3 := pp_pos r hp.tail
    have e1 : 0 ≤ x * pp r := Int.mul_nonneg h2.1 (by omega)
    have e2 : x * pp r ≤ (d - 1) * pp r := Int.mul_le_mul_of_nonneg_right (by omega) (by omega)
    rw [Int.sub_mul, Int.one_mul] at e2
    omega
theorem W_set : ∀ (s t : List Int) (i : Nat) (v : Int), t.length = s.length → i < t.length → W s (t.set i v) = W s t + (v - t.getD i 0) * pp (s.drop (i + 1))
  | [], t, i, v, h, hi => by simp at h; subst h; simp at hi
  | _ :: _, [], _, _, h, _ => by simp at h
  | d :: r, x :: q, 0, v, h, hi => by
    simp only [List.set_cons_zero, W, List.getD_cons_zero, List.drop_succ_cons, List.drop_zero, Int.sub_mul]
    omega
  | d :: r, x :: q, i + 1, v, h, hi => by
    simp only [List.set_cons_succ, W, List.getD_cons_succ, List.drop_succ_cons]
    rw [W_set r q i v (by simpa using h) (by simpa using hi)]
    omega
theorem pp_drop {s : List Int} {i : Nat} (h : i < s.length) : pp (s.drop i) = s.getD i 0 * pp (s.drop (i + 1)) := by
  rw [drop_getD h, pp]
theorem bump_W (s : List Int) (hp : Pos s) : ∀ (i : Nat) (t : List Int), i ≤ s.length → Within s t → W s t + pp (s.drop i) < pp s → W s (bump s i t) = W s t + pp (s.drop i)
  | 0, t, _, ht, h => by
    have := (W_bd s t hp ht).1
    rw [List.drop_zero] at h
    omega
  | i + 1, t, hi, ht, h => by
    have hl : i < t.length := by rw [ht.1]; omega
    have hti := ht.2 i (by omega)
    rw [bump]
    split
    · rw [W_set s t i _ ht.1 hl]
      have e : t.getD i 0 + 1 - t.getD i 0 = 1 := by omega
      rw [e, Int.one_mul]
    · rename_i hc
      have hx : t.getD i 0 = s.getD i 0 - 1 := by omega
      have e1 : W s (t.set i 0) + pp (s.drop i) = W s t + pp (s.drop (i + 1)) := by
        rw [W_set s t i 0 ht.1 hl, pp_drop (show i < s.length by omega), hx]
        have : (0 - (s.getD i 0 - 1)) * pp (s.drop (i + 1)) = pp (s.drop (i + 1)) - s.getD i 0 * pp (s.drop (i + 1)) := by
          rw [show (0 - (s.getD i 0 - 1)) = 1 - s.getD i 0 by omega, Int.sub_mul, Int.one_mul]
        omega
      have hw : Within s (t.set i 0) := ⟨by rw [List.length_set]; exact ht.1, fun j hj => by
        rw [getD_set hl]
        have := ht.2 j hj
        have := hp j hj
        split <;> omega⟩
      rw [bump_W s hp i _ (by omega) hw (by omega), e1]
theorem idxOf_W : ∀ (s t : List Int), Pos s → Within s t → idxOf s (W s t) = t
  | [], [], _, _ => rfl
  | [], _ :: _, _, h => by have := h.1; simp at this
  | _ :: _, [], _, h => by have := h.1; simp at this
  | d :: r, x :: q, hp, h => by
    have h1 := W_bd r q hp.tail h.tail
    have h3 := pp_pos r hp.tail
    rw [idxOf, W, pp_prodA r 1 hp.tail, Int.one_mul]
    have e1 : (x * pp r + W r q) / pp r = x := by
      rw [Int.add_comm, Int.add_mul_ediv_right _ _ (by omega), Int.ediv_eq_zero_of_lt h1.1 h1.2, Int.zero_add]
    have e2 : (x * pp r + W r q) % pp r = W r q := by
      rw [Int.add_comm, Int.add_mul_emod_self_right, Int.emod_eq_of_lt h1.1 h1.2]
    rw [e1, e2, idxOf_W r q hp.tail h.tail]

theorem movedGo_range {α : Type} (val : List Int → α) (s : List Int) (hp : Pos s) : ∀ (n : Nat) (t : List Int), Within s t → W s t + n ≤ pp s →
    movedGo val s n t = (List.range n).map fun (k : Nat) => val (idxOf s (W s t + k))
  | 0, _, _, _ => rfl
  | n + 1, t, ht, h => by
    rw [movedGo, List.range_succ_eq_map, List.map_cons, List.map_map]
    congr 1
    · rw [show (W s t + ((0 : Nat) : Int)) = W s t by omega, idxOf_W s t hp ht]
    · rcases Nat.eq_zero_or_pos n with rfl | hn
      · rfl
      · have hb := bump_W s hp s.length t (Nat.le_refl _) ht (by rw [List.drop_length, pp]; omega)
        rw [List.drop_length, pp] at hb
        rw [ht.1, movedGo_range val s hp n _ (bump_within s hp _ _ (Nat.le_refl _) ht) (by omega), hb]
        apply List.map_congr_left
        intro k _
        simp only [Function.comp]
        congr 2
        omega
theorem W_zero : ∀ (s : List Int), W s (List.replicate s.length 0) = 0
  | [] => rfl
  | d :: r => by rw [List.length_cons, List.replicate_succ, W, W_zero r]; simp

/-- From the beginning. -/
theorem movedGo_all {α : Type} (val : List Int → α) (s : List Int) : movedGo val s (shapeSize s).toNat (List.replicate s.length 0) = (List.range (shapeSize s).toNat).map fun (k : Nat) => val (idxOf s k) := by
  by_cases h : 0 < shapeSize s
  · have hp : Pos s := shapeSize_pos h
    have hr : shapeRight s = true := by
      unfold shapeSize at h
      split at h
      · assumption
      · omega
    have he : shapeSize s = pp s := by
      rw [shapeSize, if_pos hr, ← prodA_volOf, pp_prodA s 1 hp, Int.one_mul]
    rw [movedGo_range val s hp _ _ (within_zero s hp) (by rw [W_zero, he]; have := pp_pos s hp; omega)]
    simp [W_zero]
  · have h0 : (shapeSize s).toNat = 0 := by omega
    rw [h0]; rfl
end Go.Proofs.Ytgeppialbkijiaa

namespace Go.Proofs.Ytgeppialbkijiaa
set_option linter.unusedSimpArgs false
set_option linter.unusedVariables false
open Go.RowKit

theorem rightGo_take : ∀ (s : List Int) (p : Int) (k : Nat), rightGo p s = true → rightGo p (s.take k) = true
  | [], p, k, h => by rw [List.take_nil]; exact h
  | d :: r, p, 0, h => by rw [List.take_zero]; rfl
  | d :: r, p, k + 1, h => by
    rw [List.take_succ_cons]
    rw [rightGo] at h ⊢
    split
    · rename_i h1; rw [if_pos h1] at h; cases h
    · rename_i h1
      rw [if_neg h1] at h
      split
      · rename_i h2; rw [if_pos h2] at h; exact rightGo_take r p k h
      · rename_i h2
        rw [if_neg h2] at h
        split
        · rename_i h3; rw [if_pos h3] at h; cases h
        · rename_i h3; rw [if_neg h3] at h; exact rightGo_take r _ k h
theorem prodA_zero : ∀ (s : List Int), prodA 0 s = 0
  | [] => rfl
  | d :: r => by rw [prodA]; split; rfl; rw [Int.zero_mul]; exact prodA_zero r
theorem prodA_app : ∀ (a b : List Int) (p : Int), prodA p (a ++ b) = prodA (prodA p a) b
  | [], b, p => rfl
  | d :: r, b, p => by
    rw [List.cons_append, prodA, prodA]
    split
    · exact (prodA_zero b).symm
    · exact prodA_app r b _
theorem size_prodA {s : List Int} (h : rightGo 1 s = true) (h8 : s.length ≤ 8) : shapeSize s = prodA 1 s := by
  unfold shapeSize
  rw [if_pos (by simp only [shapeRight, h, Bool.and_true, decide_eq_true_eq]; exact h8), ← prodA_volOf]
theorem size_split {s : List Int} (h : rightGo 1 s = true) (h8 : s.length ≤ 8) (k : Nat) : shapeSize s = shapeSize (s.take k) * shapeSize (s.drop k) ∧ 0 ≤ shapeSize (s.take k) ∧ shapeSize (s.take k) ≤ 65536 ∧ 0 ≤ shapeSize (s.drop k) ∧ shapeSize (s.drop k) ≤ 65536 := by
  have h1 := rightGo_take s 1 k h
  have h2 := rightGo_drop s k h
  rw [size_prodA h h8, size_prodA h1 (by rw [List.length_take]; omega), size_prodA h2 (by rw [List.length_drop]; omega)]
  refine ⟨?_, prodA_nonneg _ 1 (by omega) h1, prodA_le _ 1 (by omega) (by omega) h1, prodA_nonneg _ 1 (by omega) h2, prodA_le _ 1 (by omega) (by omega) h2⟩
  conv => lhs; rw [← List.take_append_drop k s, prodA_app, prodA_scale]
end Go.Proofs.Ytgeppialbkijiaa

namespace Go.Proofs.Ytgeppialbkijiaa
set_option linter.unusedSimpArgs false
set_option linter.unusedVariables false

/-- The shape with leading ones, up to n axes. -/
def leadV (s : List Int) (n : Nat) : List Int := List.replicate (n - s.length) 1 ++ s
theorem leadV_len {s : List Int} {n : Nat} (h : s.length ≤ n) : (leadV s n).length = n := by simp [leadV]; omega
theorem leadV_self (s : List Int) : leadV s s.length = s := by simp [leadV]
def inGo : List Int → List Int → Bool
  | f :: r, x :: t => decide (x < f) && inGo r t
  | _, _ => true
def atIn : List Int → List Int → Int → Int
  | f :: r, x :: t, acc => atIn r t (acc * f + x)
  | _, _, acc => acc
def padEl {α : Type} (get : Nat → α) (fill : α) (fr t : List Int) : α := if inGo fr t = true then get (atIn fr t 0).toNat else fill
/-- The elements of the padded array. -/
def padL {α : Type} (get : Nat → α) (fill : α) (fr s : List Int) : List α := movedGo (padEl get fill fr) s (shapeSize s).toNat (List.replicate s.length 0)
def rputV {α : Type} (get : Nat → α) (fill : α) : List Int → List Int → Nat → List α
  | _, [], o => [get o]
  | fr, t :: tr, o => (List.range t.toNat).flatMap fun (i : Nat) => if (i : Int) < fr.headD 0 ∧ 0 < shapeSize fr.tail then rputV get fill fr.tail tr (o + i * (shapeSize fr.tail).toNat) else List.replicate (shapeSize tr).toNat fill

/-- The shape fits into the greater one. -/
def FrOk (fr s : List Int) : Prop := fr.length = s.length ∧ ∀ j, j < s.length → 0 ≤ fr.getD j 0 ∧ fr.getD j 0 ≤ s.getD j 0
theorem FrOk.head {f d : Int} {q r : List Int} (h : FrOk (f :: q) (d :: r)) : 0 ≤ f ∧ f ≤ d := by simpa using h.2 0 (by simp)
theorem FrOk.tail {f d : Int} {q r : List Int} (h : FrOk (f :: q) (d :: r)) : FrOk q r := ⟨by simpa using h.1, fun j hj => by simpa using h.2 (j + 1) (by simpa using hj)⟩
theorem FrOk.right : ∀ (fr s : List Int) (p q : Int), FrOk fr s → 0 ≤ p → p ≤ q → rightGo q s = true → rightGo p fr = true
  | [], _, _, _, _, _, _, _ => rfl
  | _ :: _, [], _, _, h, _, _, _ => by have := h.1; simp at this
  | f :: u, d :: r, p, q, h, hp, hpq, hr => by
    have hh := h.head
    rw [rightGo] at hr ⊢
    by_cases h1 : d < 0 ∨ 65536 < d
    · rw [if_pos h1] at hr; cases hr
    · rw [if_neg h1] at hr
      rw [if_neg (by omega)]
      by_cases h2 : d = 0
      · rw [if_pos h2] at hr
        rw [if_pos (by omega)]
        exact FrOk.right u r p q h.tail hp hpq hr
      · rw [if_neg h2] at hr
        by_cases h3 : 65536 < q * d
        · rw [if_pos h3] at hr; cases hr
        · rw [if_neg h3] at hr
          by_cases h4 : f = 0
          · rw [if_pos h4]
            have : q * 1 ≤ q * d := Int.mul_le_mul_of_nonneg_left (by omega) (by omega)
            exact FrOk.right u r p (q * d) h.tail hp (by omega) hr
          · have e : p * f ≤ q * d := Int.mul_le_mul hpq hh.2 hh.1 (by omega)
            rw [if_neg h4, if_neg (by omega)]
            exact FrOk.right u r _ (q * d) h.tail (Int.mul_nonneg hp hh.1) e hr
theorem pp_nn : ∀ (s : List Int), (∀ x ∈ s, 0 ≤ x) → 0 ≤ pp s
  | [], _ => by simp [pp]
  | d :: r, h => by rw [pp]; exact Int.mul_nonneg (h d (by simp)) (pp_nn r fun x hx => h x (by simp [hx]))
theorem W_nn : ∀ (s t : List Int), (∀ x ∈ s, 0 ≤ x) → (∀ x ∈ t, 0 ≤ x) → 0 ≤ W s t
  | [], _, _, _ => by simp [W]
  | _ :: _, [], _, _ => by simp [W]
  | d :: r, x :: q, h, ht => by
    rw [W]
    have h1 := W_nn r q (fun x hx => h x (by simp [hx])) (fun x hx => ht x (by simp [hx]))
    have h2 := Int.mul_nonneg (ht x (by simp)) (pp_nn r fun x hx => h x (by simp [hx]))
    omega
theorem atIn_W : ∀ (s t : List Int) (acc : Int), s.length = t.length → atIn s t acc = acc * pp s + W s t
  | [], [], acc, _ => by simp [atIn, pp, W]
  | [], _ :: _, _, h => by simp at h
  | _ :: _, [], _, h => by simp at h
  | d :: r, x :: q, acc, h => by
    rw [atIn, atIn_W r q _ (by simpa using h), pp, W, Int.add_mul, Int.mul_assoc]
    omega
theorem inGo_pos : ∀ (s t : List Int), s.length = t.length → (∀ x ∈ t, 0 ≤ x) → inGo s t = true → Pos s
  | [], _, _, _, _ => fun j hj => by simp at hj
  | _ :: _, [], h, _, _ => by simp at h
  | d :: r, x :: q, h, ht, hi => by
    simp only [inGo, Bool.and_eq_true, decide_eq_true_eq] at hi
    have h1 := inGo_pos r q (by simpa using h) (fun x hx => ht x (by simp [hx])) hi.2
    have h2 := ht x (by simp)
    intro j hj
    cases j with
    | zero => simp; omega
    | succ j => simpa using h1 j (by simpa using hj)
theorem prodA_pos_pp {s : List Int} (h : Pos s) : prodA 1 s = pp s := by rw [pp_prodA s 1 h, Int.one_mul]
theorem pos_of_prodA : ∀ (s : List Int), rightGo 1 s = true → 0 < prodA 1 s → Pos s
  | [], _, _ => fun j hj => by simp at hj
  | d :: r, hr, h => by
    have hd : d ≠ 0 := by
      intro e
      rw [prodA, if_pos e] at h
      omega
    obtain ⟨h2, _, _, _⟩ := rightGo_cons hr hd
    rw [prodA, if_neg hd, prodA_scale, Int.one_mul] at h
    have h3 := prodA_nonneg r 1 (by omega) (rightGo_tail hr)
    have h4 : 0 < prodA 1 r := by
      rcases (show prodA 1 r = 0 ∨ 0 < prodA 1 r from by omega) with e | e
      · rw [e] at h; simp at h
      · exact e
    have h5 := pos_of_prodA r (rightGo_tail hr) h4
    intro j hj
    cases j with
    | zero => simp; omega
    | succ j => simpa using h5 j (by simpa using hj)
theorem within_mem {s t : List Int} (h : Within s t) : ∀ x ∈ t, 0 ≤ x := by
  intro x hx
  obtain ⟨j, hj, e⟩ := List.mem_iff_getElem.1 hx
  have := (h.2 j (by rw [← h.1]; exact hj)).1
  simp only [List.getD, hj, List.getElem?_eq_getElem, Option.getD_some] at this
  rw [← e]; exact this
theorem range_mul {α : Type} (g : Nat → α) (m : Nat) : ∀ (D : Nat), (List.range (D * m)).map g = (List.range D).flatMap fun i => (List.range m).map fun j => g (i * m + j)
  | 0 => by simp
  | D + 1 => by
    rw [Nat.succ_mul, List.range_add, List.map_append, range_mul g m D, List.range_succ, List.flatMap_append]
    simp [List.map_map, Function.comp_def]
theorem prodA_cons_nat {d : Int} {r : List Int} (hr : rightGo 1 (d :: r) = true) : (prodA 1 (d :: r)).toNat = d.toNat * (prodA 1 r).toNat := by
  rw [prodA]
  split
  · rename_i h; simp [h]
  · rename_i h
    obtain ⟨h2, _, _, _⟩ := rightGo_cons hr h
    rw [prodA_scale, Int.one_mul, Int.toNat_mul (by omega) (prodA_nonneg r 1 (by omega) (rightGo_tail hr))]
theorem idxOf_cons {d : Int} {r : List Int} {i j : Nat} (hm : j < (prodA 1 r).toNat) : idxOf (d :: r) ((i * (prodA 1 r).toNat + j : Nat) : Int) = (i : Int) :: idxOf r (j : Int) := by
  obtain ⟨m, hm'⟩ : ∃ m : Nat, prodA 1 r = m := ⟨(prodA 1 r).toNat, by omega⟩
  rw [idxOf, hm']
  rw [hm', Int.toNat_natCast] at hm
  rw [Int.toNat_natCast]
  have e1 : ((i * m + j : Nat) : Int) / (m : Int) = (i : Int) := by
    rw [← Int.natCast_ediv, Nat.add_comm, Nat.add_mul_div_right _ _ (by omega), Nat.div_eq_of_lt hm, Nat.zero_add]
  have e2 : ((i * m + j : Nat) : Int) % (m : Int) = (j : Int) := by
    rw [← Int.natCast_emod, Nat.add_comm, Nat.add_mul_mod_self_right, Nat.mod_eq_of_lt hm]
  rw [e1, e2]
theorem map_const {α : Type} (g : Nat → α) (a : α) (m : Nat) (h : ∀ j, j < m → g j = a) : (List.range m).map g = List.replicate m a := by
  rw [List.eq_replicate_iff]
  refine ⟨by simp, fun b hb => ?_⟩
  obtain ⟨j, hj, e⟩ := List.mem_map.1 hb
  rw [← e]; exact h j (List.mem_range.1 hj)

theorem flatMap_congr' {α β : Type} {f g : α → List β} : ∀ (l : List α), (∀ x ∈ l, f x = g x) → l.flatMap f = l.flatMap g
  | [], _ => rfl
  | x :: r, h => by rw [List.flatMap_cons, List.flatMap_cons, h x (by simp), flatMap_congr' r fun y hy => h y (by simp [hy])]
theorem rput_map {α : Type} (get : Nat → α) (fill : α) : ∀ (s fr : List Int) (o : Nat), rightGo 1 s = true → s.length ≤ 8 → FrOk fr s →
    rputV get fill fr s o = (List.range (prodA 1 s).toNat).map fun (k : Nat) => if inGo fr (idxOf s k) = true then get (o + (W fr (idxOf s k)).toNat) else fill
  | [], fr, o, _, _, hf => by
    have : fr = [] := List.eq_nil_of_length_eq_zero hf.1
    subst this
    simp [rputV, prodA, idxOf, inGo, W]
  | d :: r, [], _, _, _, hf => by have := hf.1; simp at this
  | d :: r, f :: q, o, hr, h8, hf => by
    have hr' := rightGo_tail hr
    have h8' : r.length ≤ 8 := by simp at h8; omega
    have hq := FrOk.right q r 1 1 hf.tail (by omega) (by omega) hr'
    have hql : q.length ≤ 8 := by rw [hf.tail.1]; exact h8'
    rw [rputV, prodA_cons_nat hr, range_mul, List.headD_cons, List.tail_cons, size_prodA hr' h8', size_prodA hq hql]
    apply flatMap_congr'
    intro i hi
    have hnn : ∀ x ∈ q, 0 ≤ x := fun x hx => (rightGo_nonneg q 1 hq x hx).1
    have hidx : ∀ j, j < (prodA 1 r).toNat → Within r (idxOf r j) := fun j hj => idxOf_within r j hr' (by omega) (by omega)
    have hlen : ∀ j : Nat, q.length = (idxOf r (j : Int)).length := fun j => by rw [idxOf_length, hf.tail.1]
    split
    · rename_i hc
      rw [rput_map get fill r q _ hr' h8' hf.tail]
      apply List.map_congr_left
      intro j hj
      have hj' := List.mem_range.1 hj
      rw [idxOf_cons hj', inGo, W]
      have hpos := pos_of_prodA q hq hc.2
      have e1 : prodA 1 q = pp q := prodA_pos_pp hpos
      rw [show decide ((i : Int) < f) = true from by simpa using hc.1, Bool.true_and]
      have hw := W_nn q (idxOf r j) hnn (within_mem (hidx j hj'))
      congr 2
      rw [e1, Int.toNat_add (Int.mul_nonneg (by omega) (by rw [← e1]; omega)) hw, Int.toNat_mul (by omega) (by rw [← e1]; omega), Int.toNat_natCast]
      omega
    · rename_i hc
      symm
      apply map_const
      intro j hj
      rw [idxOf_cons hj, inGo]
      rw [if_neg]
      intro hcon
      simp only [Bool.and_eq_true, decide_eq_true_eq] at hcon
      apply hc
      refine ⟨hcon.1, ?_⟩
      have hpos := inGo_pos q _ (hlen j) (within_mem (hidx j hj)) hcon.2
      rw [prodA_pos_pp hpos]
      exact pp_pos q hpos

theorem padL_map {α : Type} (get : Nat → α) (fill : α) (fr s : List Int) (hl : fr.length = s.length) :
    padL get fill fr s = (List.range (shapeSize s).toNat).map fun (k : Nat) => if inGo fr (idxOf s k) = true then get (W fr (idxOf s k)).toNat else fill := by
  unfold padL
  rw [movedGo_all]
  apply List.map_congr_left
  intro k _
  unfold padEl
  rw [atIn_W _ _ _ (by rw [idxOf_length, hl]), Int.zero_mul, Int.zero_add]
/-- THE LAW: the two ways build the same. -/
theorem rput_eq {α : Type} (get : Nat → α) (fill : α) (fr s : List Int) (hr : shapeRight s = true) (hf : FrOk fr s) : rputV get fill fr s 0 = padL get fill fr s := by
  have h := shapeRight_go hr
  rw [padL_map get fill fr s hf.1, rput_map get fill s fr 0 h.1 h.2 hf, size_prodA h.1 h.2]
  simp only [Nat.zero_add]

theorem W_idxOf : ∀ (s : List Int) (o : Int), rightGo 1 s = true → 0 ≤ o → o < prodA 1 s → W s (idxOf s o) = o ∧ inGo s (idxOf s o) = true
  | [], o, _, h0, h1 => by
    rw [prodA] at h1
    exact ⟨by rw [idxOf, W]; omega; simp, rfl⟩
  | d :: r, o, hr, h0, h1 => by
    obtain ⟨a1, a2, a3, a4, a5, a6⟩ := idx_step hr h0 h1
    obtain ⟨b1, b2⟩ := W_idxOf r (o % prodA 1 r) (rightGo_tail hr) a5 a6
    have hp := pos_of_prodA r (rightGo_tail hr) (by omega)
    rw [idxOf, W, inGo, b1, b2, ← prodA_pos_pp hp]
    refine ⟨?_, by simpa using a4⟩
    have := Int.mul_ediv_add_emod o (prodA 1 r)
    rw [Int.mul_comm] at this
    exact this
/-- Padding to the shape itself. -/
theorem padL_self {α : Type} (get : Nat → α) (fill : α) (s : List Int) (hr : shapeRight s = true) : padL get fill s s = (List.range (shapeSize s).toNat).map get := by
  have h := shapeRight_go hr
  rw [padL_map get fill s s rfl]
  apply List.map_congr_left
  intro k hk
  have hk' := List.mem_range.1 hk
  rw [size_prodA h.1 h.2] at hk'
  obtain ⟨b1, b2⟩ := W_idxOf s k h.1 (by omega) (by omega)
  rw [if_pos b2, b1, Int.toNat_natCast]
/-- Padding with more rows. -/
theorem padL_rows {α : Type} (get : Nat → α) (fill : α) (f d : Int) (r : List Int) (hr : shapeRight (d :: r) = true) (h0 : 0 ≤ f) (hf : f ≤ d) :
    padL get fill (f :: r) (d :: r) = (List.range (shapeSize (f :: r)).toNat).map get ++ List.replicate ((shapeSize (d :: r)).toNat - (shapeSize (f :: r)).toNat) fill := by
  have h := shapeRight_go hr
  have hfr : FrOk (f :: r) (d :: r) := ⟨rfl, fun j hj => by
    cases j with
    | zero => simpa using ⟨h0, hf⟩
    | succ j =>
      have hj' : j < r.length := by simpa using hj
      simp only [List.getD_cons_succ]
      exact ⟨(rightGo_nonneg _ 1 h.1 (r.getD j 0) (by simp [List.getD, hj'])).1, Int.le_refl _⟩⟩
  have hr2 := FrOk.right _ _ 1 1 hfr (by omega) (by omega) h.1
  have hl2 : (f :: r).length ≤ 8 := h.2
  have hz := rightGo_tail h.1
  rw [padL_map get fill (f :: r) (d :: r) (by simp), size_prodA h.1 h.2, size_prodA hr2 hl2, prodA_cons_nat h.1, prodA_cons_nat hr2]
  have hsplit : d.toNat * (prodA 1 r).toNat = f.toNat * (prodA 1 r).toNat + (d.toNat * (prodA 1 r).toNat - f.toNat * (prodA 1 r).toNat) := by
    have : f.toNat * (prodA 1 r).toNat ≤ d.toNat * (prodA 1 r).toNat := Nat.mul_le_mul_right _ (by omega)
    omega
  have key : ∀ i j : Nat, j < (prodA 1 r).toNat → (if inGo (f :: r) (idxOf (d :: r) ((i * (prodA 1 r).toNat + j : Nat) : Int)) = true then get (W (f :: r) (idxOf (d :: r) ((i * (prodA 1 r).toNat + j : Nat) : Int))).toNat else fill) = if (i : Int) < f then get (i * (prodA 1 r).toNat + j) else fill := by
    intro i j hj
    obtain ⟨b1, b2⟩ := W_idxOf r j hz (by omega) (by omega)
    have hp := pos_of_prodA r hz (by omega)
    rw [idxOf_cons hj, inGo, W, b1, b2, ← prodA_pos_pp hp]
    by_cases hi : (i : Int) < f
    · rw [if_pos (by simpa using hi), if_pos hi]
      congr 1
      rw [Int.toNat_add (Int.mul_nonneg (by omega) (by omega)) (by omega), Int.toNat_mul (by omega) (by omega), Int.toNat_natCast, Int.toNat_natCast]
    · rw [if_neg (by simpa using hi), if_neg hi]
  generalize hm : (prodA 1 r).toNat = m at *
  have key2 : ∀ k : Nat, k < d.toNat * m → (if inGo (f :: r) (idxOf (d :: r) (k : Int)) = true then get (W (f :: r) (idxOf (d :: r) (k : Int))).toNat else fill) = if k < f.toNat * m then get k else fill := by
    intro k hk
    have hm0 : 0 < m := by
      rcases Nat.eq_zero_or_pos m with e | e
      · rw [e] at hk; simp at hk
      · exact e
    have h1 := key (k / m) (k % m) (Nat.mod_lt _ hm0)
    rw [Nat.mul_comm (k / m) m, Nat.div_add_mod] at h1
    rw [h1]
    by_cases hc : k < f.toNat * m
    · have : k / m < f.toNat := (Nat.div_lt_iff_lt_mul hm0).2 hc
      rw [if_pos (by omega), if_pos hc]
    · have : ¬ k / m < f.toNat := fun h => hc ((Nat.div_lt_iff_lt_mul hm0).1 h)
      rw [if_neg (by omega), if_neg hc]
  rw [List.map_congr_left (fun k hk => key2 k (List.mem_range.1 hk)), hsplit, List.range_add, List.map_append]
  congr 1
  · apply List.map_congr_left
    intro k hk
    rw [if_pos (List.mem_range.1 hk)]
  · rw [List.map_map]
    rw [map_const _ fill]
    · congr 1; omega
    · intro j _
      simp only [Function.comp]
      rw [if_neg (by omega)]
end Go.Proofs.Ytgeppialbkijiaa

namespace Go.Proofs.Ytgeppialbkijiaa
set_option linter.unusedSimpArgs false
set_option linter.unusedVariables false

def padN (k : Int) : Int := if k = 1 then 0 else 32
def padI : Arr := .mk 1 [0] [] []
/-- The padded array. -/
def padV : Arr → List Int → Arr
  | .mk k s n it, t => .mk k t (if k = 3 then [] else padL (fun i => n.getD i 0) (padN k) (leadV s t.length) t) (if k = 3 then padL (fun i => it.getD i default) padI (leadV s t.length) t else [])
theorem lead_prod (s : List Int) : ∀ (m : Nat), prodA 1 (List.replicate m 1 ++ s) = prodA 1 s
  | 0 => rfl
  | m + 1 => by rw [List.replicate_succ, List.cons_append, prodA, if_neg (by omega)]; exact lead_prod s m
theorem lead_go (s : List Int) : ∀ (m : Nat), rightGo 1 (List.replicate m 1 ++ s) = rightGo 1 s
  | 0 => rfl
  | m + 1 => by
    rw [List.replicate_succ, List.cons_append, rightGo, if_neg (by omega), if_neg (by omega), if_neg (by omega)]
    exact lead_go s m
theorem inGo_within : ∀ (s t : List Int), s.length = t.length → (∀ x ∈ t, 0 ≤ x) → inGo s t = true → Within s t
  | [], [], _, _, _ => ⟨rfl, fun j hj => by simp at hj⟩
  | [], _ :: _, h, _, _ => by simp at h
  | _ :: _, [], h, _, _ => by simp at h
  | d :: r, x :: q, h, ht, hi => by
    simp only [inGo, Bool.and_eq_true, decide_eq_true_eq] at hi
    have h1 := inGo_within r q (by simpa using h) (fun x hx => ht x (by simp [hx])) hi.2
    have h2 := ht x (by simp)
    refine ⟨by simpa using h.symm, fun j hj => ?_⟩
    cases j with
    | zero => simp; omega
    | succ j => simpa using h1.2 j (by simpa using hj)
/-- An index inside: its place is one of the array's. -/
theorem padAt_lt {fr t : List Int} (hr : rightGo 1 fr = true) (hl : fr.length = t.length) (ht : ∀ x ∈ t, 0 ≤ x) (hi : inGo fr t = true) : 0 ≤ atIn fr t 0 ∧ atIn fr t 0 < prodA 1 fr := by
  have hp := inGo_pos fr t hl ht hi
  have hw := inGo_within fr t hl ht hi
  rw [atIn_W fr t 0 hl, Int.zero_mul, Int.zero_add, prodA_pos_pp hp]
  exact W_bd fr t hp hw
theorem padL_len {α : Type} (get : Nat → α) (fill : α) (fr s : List Int) : (padL get fill fr s).length = (shapeSize s).toNat := by rw [padL, movedGo_length]
theorem inGo_step {fr t : List Int} {i : Nat} (h1 : i < fr.length) (h2 : i < t.length) : inGo (fr.drop i) (t.drop i) = (decide (t.getD i 0 < fr.getD i 0) && inGo (fr.drop (i + 1)) (t.drop (i + 1))) := by
  rw [drop_getD h1, drop_getD h2, inGo]
theorem atIn_step {fr t : List Int} {i : Nat} {acc : Int} (h1 : i < fr.length) (h2 : i < t.length) : atIn (fr.drop i) (t.drop i) acc = atIn (fr.drop (i + 1)) (t.drop (i + 1)) (acc * fr.getD i 0 + t.getD i 0) := by
  rw [drop_getD h1, drop_getD h2, atIn]
theorem inGo_end {fr t : List Int} {i : Nat} (h2 : t.length ≤ i) : inGo (fr.drop i) (t.drop i) = true := by
  rw [List.drop_of_length_le h2]; cases fr.drop i <;> rfl
theorem atIn_end {fr t : List Int} {i : Nat} {acc : Int} (h2 : t.length ≤ i) : atIn (fr.drop i) (t.drop i) acc = acc := by
  rw [List.drop_of_length_le h2]; cases fr.drop i <;> rfl
end Go.Proofs.Ytgeppialbkijiaa

namespace Go.Proofs.Ytgeppialbkijiaa
set_option linter.unusedSimpArgs false
set_option linter.unusedVariables false

def Arr.k : Arr → Int | .mk k _ _ _ => k
def Arr.sh : Arr → List Int | .mk _ s _ _ => s
def Arr.n : Arr → List Int | .mk _ _ n _ => n
def Arr.it : Arr → List Arr | .mk _ _ _ l => l
theorem Arr.eta (x : Arr) : Arr.mk x.k x.sh x.n x.it = x := by cases x; rfl
def zipMax : List Int → List Int → List Int
  | a :: r, b :: q => (if a < b then b else a) :: zipMax r q
  | _, _ => []
theorem zipMax_len : ∀ (a b : List Int), a.length = b.length → (zipMax a b).length = a.length
  | [], [], _ => rfl
  | [], _ :: _, h => by simp at h
  | _ :: _, [], h => by simp at h
  | a :: r, b :: q, h => by rw [zipMax, List.length_cons, zipMax_len r q (by simpa using h), List.length_cons]
theorem zipMax_getD : ∀ (a b : List Int) (j : Nat), a.length = b.length → j < a.length → (zipMax a b).getD j 0 = if a.getD j 0 < b.getD j 0 then b.getD j 0 else a.getD j 0
  | [], [], _, _, hj => by simp at hj
  | [], _ :: _, _, h, _ => by simp at h
  | _ :: _, [], _, h, _ => by simp at h
  | a :: r, b :: q, 0, h, _ => by rw [zipMax]; simp
  | a :: r, b :: q, j + 1, h, hj => by rw [zipMax]; simpa using zipMax_getD r q j (by simpa using h) (by simpa using hj)
def rankMax : Nat → List Arr → Nat
  | m, [] => m
  | m, x :: r => rankMax (if m < x.sh.length then x.sh.length else m) r
theorem rankMax_ge : ∀ (l : List Arr) (m : Nat), m ≤ rankMax m l ∧ ∀ x ∈ l, x.sh.length ≤ rankMax m l
  | [], m => ⟨Nat.le_refl _, fun x hx => by simp at hx⟩
  | y :: r, m => by
    rw [rankMax]
    obtain ⟨h1, h2⟩ := rankMax_ge r (if m < y.sh.length then y.sh.length else m)
    have h3 : m ≤ (if m < y.sh.length then y.sh.length else m) ∧ y.sh.length ≤ (if m < y.sh.length then y.sh.length else m) := by split <;> omega
    refine ⟨Nat.le_trans h3.1 h1, fun x hx => ?_⟩
    rcases List.mem_cons.1 hx with rfl | hx
    · exact Nat.le_trans h3.2 h1
    · exact h2 x hx
theorem rankMax_le : ∀ (l : List Arr) (m b : Nat), m ≤ b → (∀ x ∈ l, x.sh.length ≤ b) → rankMax m l ≤ b
  | [], _, _, h, _ => h
  | y :: r, m, b, h, hl => by
    rw [rankMax]
    exact rankMax_le r _ b (by have := hl y (by simp); split <;> omega) fun x hx => hl x (by simp [hx])
def commonGo (R : Nat) : List Int → List Arr → List Int
  | o, [] => o
  | o, x :: r => commonGo R (zipMax o (leadV x.sh R)) r
def commonV (l : List Arr) : List Int := commonGo (rankMax 0 l) (List.replicate (rankMax 0 l) 0) l
theorem commonGo_len (R : Nat) : ∀ (l : List Arr) (o : List Int), o.length = R → (∀ x ∈ l, x.sh.length ≤ R) → (commonGo R o l).length = R
  | [], o, h, _ => h
  | x :: r, o, h, hl => by
    rw [commonGo]
    have h1 := leadV_len (hl x (by simp))
    exact commonGo_len R r _ (by rw [zipMax_len _ _ (by omega), h]) fun y hy => hl y (by simp [hy])
theorem commonV_len (l : List Arr) : (commonV l).length = rankMax 0 l := commonGo_len _ l _ (by simp) (rankMax_ge l 0).2
/-- Each cell fits. -/
theorem commonGo_ge (R : Nat) : ∀ (l : List Arr) (o : List Int), o.length = R → (∀ x ∈ l, x.sh.length ≤ R) → ∀ j, j < R → o.getD j 0 ≤ (commonGo R o l).getD j 0 ∧ ∀ x ∈ l, (leadV x.sh R).getD j 0 ≤ (commonGo R o l).getD j 0
  | [], o, _, _, j, _ => ⟨Int.le_refl _, fun x hx => by simp at hx⟩
  | y :: r, o, h, hl, j, hj => by
    rw [commonGo]
    have h1 := leadV_len (hl y (by simp))
    obtain ⟨h2, h3⟩ := commonGo_ge R r (zipMax o (leadV y.sh R)) (by rw [zipMax_len _ _ (by omega), h]) (fun x hx => hl x (by simp [hx])) j hj
    rw [zipMax_getD _ _ j (by omega) (by omega)] at h2
    have h4 : o.getD j 0 ≤ (commonGo R (zipMax o (leadV y.sh R)) r).getD j 0 ∧ (leadV y.sh R).getD j 0 ≤ (commonGo R (zipMax o (leadV y.sh R)) r).getD j 0 := by
      split at h2 <;> omega
    refine ⟨h4.1, fun x hx => ?_⟩
    rcases List.mem_cons.1 hx with rfl | hx
    · exact h4.2
    · exact h3 x hx
theorem common_fits {l : List Arr} {x : Arr} (hx : x ∈ l) (hr : rightGo 1 x.sh = true) : FrOk (leadV x.sh (commonV l).length) (commonV l) := by
  rw [commonV_len]
  have h1 := (rankMax_ge l 0).2 x hx
  refine ⟨by rw [leadV_len h1, commonV_len], fun j hj => ⟨?_, ?_⟩⟩
  · have h2 := leadV_len h1
    rw [commonV_len] at hj
    have hm : (leadV x.sh (rankMax 0 l)).getD j 0 ∈ leadV x.sh (rankMax 0 l) := by simp [List.getD, show j < (leadV x.sh (rankMax 0 l)).length by omega]
    rw [leadV] at hm
    rcases List.mem_append.1 hm with h | h
    · have := List.eq_of_mem_replicate h
      rw [leadV]; omega
    · rw [leadV]; exact (rightGo_nonneg x.sh 1 hr _ h).1
  · rw [commonV_len] at hj
    exact (commonGo_ge _ l _ (by simp) (rankMax_ge l 0).2 j hj).2 x hx
/-- The error of the arguments. -/
def wrongV (frame : List Int) (l : List Arr) (like : Arr) : Int :=
  if shapeRight frame = false ∨ (l.length : Int) ≠ shapeSize frame ∨ (l = [] ∧ rightV like ≠ 0) then 1 else if l.all (fun x => rightV x == 0) = false then 1 else if l.all (fun x => x.k == (l.headD default).k) = false then 14 else 0
/-- The joined array, ahead of the last test. -/
def joinedV (frame : List Int) (l : List Arr) : Arr :=
  .mk (l.headD default).k (frame ++ commonV l) (l.flatMap fun x => (padV x (commonV l)).n) (l.flatMap fun x => (padV x (commonV l)).it)
def joinV (frame : List Int) (l : List Arr) (like : Arr) : Arr × Int :=
  if wrongV frame l like ≠ 0 then (Arr.zero, wrongV frame l like)
  else if l = [] then (if shapeRight (frame ++ like.sh) = true then (.mk like.k (frame ++ like.sh) [] [], 0) else (Arr.zero, 21))
  else if shapeRight (frame ++ commonV l) = false then (Arr.zero, 21)
  else if rightV (joinedV frame l) = 0 then (joinedV frame l, 0) else (Arr.zero, 21)
end Go.Proofs.Ytgeppialbkijiaa
