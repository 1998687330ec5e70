/-
  PLAIN LAW: taking all, dropping nothing, taking twice (layer 19).
-/
import Derived.Test.YtcmnlnamgnbemaaTkLaw
import Derived.Test.YtcmnlnamgnbemaaBackLaw
namespace Go.Proofs.Ytcmnlnamgnbemaa
set_option linter.unusedSimpArgs false
set_option linter.unusedVariables false
open Go.RowKit

theorem vec_right2 {l : List Int} (h8 : l.length ≤ 65536) (hl : ∀ a ∈ l, -4611686018427387903 ≤ a ∧ a ≤ 4611686018427387903) : rightV (vecV l) = 0 := by
  have hg : rightGo 1 [(l.length : Int)] = true := by
    simp only [rightGo]
    rw [if_neg (by omega)]
    split
    · rfl
    · rw [if_neg (by omega)]
  have hs : shapeSize [(l.length : Int)] = l.length := by
    unfold shapeSize
    rw [if_pos (by simp [shapeRight, hg]), ← prodA_volOf]
    simp only [prodA]
    split <;> omega
  unfold rightV vecV
  rw [visitV]
  have hf : formV (.mk 1 [(l.length : Int)] l []) = 0 := by
    unfold formV formOf
    simp only [List.length_singleton, hs]
    simp [isNeg, shapeRight, hg]
  rw [if_neg (by rw [hf]; simp)]
  have hb : ¬ l.any (badNum 1) = true := by
    rw [Bool.not_eq_true, List.any_eq_false]
    intro x hx
    have := hl x hx
    simp [badNum, isNum]
    omega
  rw [if_neg hb, itemsV]
  simp only [List.length_nil]
  rw [if_neg (by omega)]

theorem srcGo_id {fr : Nat → Int → Int} (hfr : ∀ a i, fr a i = i) : ∀ (s t : List Int) (a : Nat) (acc : Int), srcGo fr a s t acc = offGo acc s t
  | [], t, a, acc => by unfold srcGo offGo; rfl
  | _ :: _, [], a, acc => by unfold srcGo offGo; rfl
  | d :: r, x :: q, a, acc => by rw [srcGo, offGo, hfr, srcGo_id hfr r q]
theorem takeFr_id {l ys : List Int} (h : ∀ x ∈ l, 0 ≤ x) (a : Nat) (i : Int) : takeFr l ys a i = i := by
  unfold takeFr
  rw [if_neg]
  rintro ⟨h1, h2⟩
  have := h (l.getD a 0) (getD_in h1)
  omega
theorem dropFr_id {l : List Int} (h : ∀ x ∈ l, x = 0) (a : Nat) (i : Int) : dropFr l a i = i := by
  unfold dropFr
  rw [if_neg]
  rintro ⟨h1, h2⟩
  have := h (l.getD a 0) (getD_in h1)
  omega
theorem src_within {fr : Nat → Int → Int} (hfr : ∀ a i, fr a i = i) {s t : List Int} (h : Within s t) : srcGo fr 0 s t 0 = some (Go.Proofs.Ytcmnlnamgnbemaa.W s t) := by
  rw [srcGo_id hfr, offGo_W s t 0 h]
  simp

/-- What build makes of the whole array is the array. -/
theorem bld_self {fr : Nat → Int → Int} (hfr : ∀ a i, fr a i = i) {k : Int} {s n : List Int} {it : List Arr} (hs8 : s.length ≤ 8) (hr : rightGo 1 s = true) (hn : k ≠ 3 → it = [] ∧ (n.length : Int) = shapeSize s) (hi : k = 3 → n = [] ∧ (it.length : Int) = shapeSize s) :
    bldV s fr (.mk k s n it) = .mk k s n it := by
  have hsr : shapeRight s = true := by simp [shapeRight, hs8, hr]
  have key : ∀ i : Nat, i < (shapeSize s).toNat → srcGo fr 0 s (idxOf s i) 0 = some (i : Int) := by
    intro i hi
    obtain ⟨hp, hsz⟩ := pos_of_size hsr (by omega)
    have ht : Within s (idxOf s i) := idxOf_within _ _ hr (by omega) (by rw [pp_prodA _ 1 hp]; omega)
    rw [src_within hfr ht, W_idxOf _ _ hp (by omega) (by omega)]
  show Arr.mk k s (if k = 3 then [] else movedGo (bldN k s n fr) s (shapeSize s).toNat (List.replicate s.length 0)) (if k = 3 then movedGo (bldI s it fr) s (shapeSize s).toNat (List.replicate s.length 0) else []) = Arr.mk k s n it
  congr 1
  · split
    · rename_i h3; exact (hi h3).1.symm
    · rename_i h3
      have hN : (shapeSize s).toNat = n.length := by have := (hn h3).2; omega
      rw [movedGo_all]
      refine Eq.trans (List.map_congr_left fun i hi2 => ?_) (Eq.trans (by rw [hN]) (range_getD n 0))
      unfold bldN
      rw [key i (List.mem_range.1 hi2)]
      simp
  · split
    · rename_i h3
      have hN : (shapeSize s).toNat = it.length := by have := (hi h3).2; omega
      rw [movedGo_all]
      refine Eq.trans (List.map_congr_left fun i hi2 => ?_) (Eq.trans (by rw [hN]) (range_getD it default))
      unfold bldI
      rw [key i (List.mem_range.1 hi2)]
      simp
    · rename_i h3; exact (hn h3).1.symm
theorem build_self {fr : Nat → Int → Int} (hfr : ∀ a i, fr a i = i) {k : Int} {s n : List Int} {it : List Arr} (hr : rightV (.mk k s n it) = 0) : buildV s fr (.mk k s n it) = (.mk k s n it, 0) := by
  obtain ⟨a1, a2, a3, a4, a5⟩ := right_parts hr
  have hsr : shapeRight s = true := by simp [shapeRight, a2, a3]
  unfold buildV
  rw [bld_self hfr a2 a3 a4 a5, if_neg (by simp [hsr]), if_neg (by simp [hr])]
theorem tkErr_vec {l : List Int} (hl : ∀ a ∈ l, -4611686018427387903 ≤ a ∧ a ≤ 4611686018427387903) {k : Int} {s n : List Int} {it : List Arr} (hr : rightV (.mk k s n it) = 0) (h1 : ¬ (0 < s.length ∧ s.length < l.length)) (h8 : l.length ≤ 8) : tkErr (vecV l) (.mk k s n it) = 0 := by
  have hv : rightV (vecV l) = 0 := vec_right2 (by omega) hl
  show (if rightV (vecV l) ≠ 0 then 1 else if rightV (.mk k s n it) ≠ 0 then 1 else if (1 : Int) ≠ 1 then 14 else if 1 < [(l.length : Int)].length then 15 else if 0 < s.length ∧ s.length < l.length then 16 else if 8 < l.length then 21 else (0 : Int)) = 0
  rw [if_neg (by simp [hv]), if_neg (by simp [hr]), if_neg (by simp), if_neg (by simp), if_neg h1, if_neg (by omega)]
theorem withL_all (f : Int → Int → Int) (g : Int → Int) : ∀ (s : List Int), (∀ x ∈ s, f (g x) x = x) → withL f (s.map g) s = s
  | [], _ => by unfold withL; rfl
  | x :: r, h => by
    rw [List.map_cons, withL, h x (by simp), withL_all f g r (fun y hy => h y (by simp [hy]))]
theorem take_all {k : Int} {s n : List Int} {it : List Arr} (hr : rightV (.mk k s n it) = 0) : takeV (vecV s) (.mk k s n it) = (.mk k s n it, 0) := by
  obtain ⟨a1, a2, a3, a4, a5⟩ := right_parts hr
  have hf := rightGo_nonneg s 1 a3
  have he := tkErr_vec (l := s) (fun a ha => by have := hf a ha; omega) hr (by omega) a2
  unfold takeV
  rw [if_neg (by simp [he])]
  show buildV (withL takeF s (tkS (tkY s.length (.mk k s n it)))) (takeFr s (tkS (tkY s.length (.mk k s n it)))) (tkY s.length (.mk k s n it)) = _
  have hy : tkY s.length (.mk k s n it) = .mk k s n it := by
    rw [tkY]
    by_cases h0 : s.length = 0
    · obtain rfl : s = [] := List.eq_nil_of_length_eq_zero h0
      simp
    · rw [if_neg h0]
  rw [hy]
  have hw : withL takeF s s = s := by
    have := withL_all takeF id s (fun x hx => by have := hf x hx; unfold takeF; simp; omega)
    simpa using this
  show buildV (withL takeF s s) _ _ = _
  rw [hw]
  exact build_self (takeFr_id fun x hx => (hf x hx).1) hr
theorem drop_none {k : Int} {s n : List Int} {it : List Arr} (hr : rightV (.mk k s n it) = 0) : dropV (vecV (List.replicate s.length 0)) (.mk k s n it) = (.mk k s n it, 0) := by
  obtain ⟨a1, a2, a3, a4, a5⟩ := right_parts hr
  have hf := rightGo_nonneg s 1 a3
  have he := tkErr_vec (l := List.replicate s.length 0) (fun a ha => by rw [(List.mem_replicate.1 ha).2]; omega) hr (by simp) (by simpa using a2)
  unfold dropV
  rw [if_neg (by simp [he])]
  show buildV (withL dropF (List.replicate s.length 0) (tkS (tkY (List.replicate s.length (0 : Int)).length (.mk k s n it)))) (dropFr (List.replicate s.length 0)) (tkY (List.replicate s.length (0 : Int)).length (.mk k s n it)) = _
  rw [List.length_replicate]
  have hy : tkY s.length (.mk k s n it) = .mk k s n it := by
    rw [tkY]
    by_cases h0 : s.length = 0
    · obtain rfl : s = [] := List.eq_nil_of_length_eq_zero h0
      simp
    · rw [if_neg h0]
  rw [hy]
  have hw : withL dropF (List.replicate s.length 0) s = s := by
    have := withL_all dropF (fun _ => 0) s (fun x hx => by have := hf x hx; unfold dropF; omega)
    rw [List.map_const'] at this
    exact this
  show buildV (withL dropF (List.replicate s.length 0) s) _ _ = _
  rw [hw]
  exact build_self (dropFr_id fun x hx => (List.mem_replicate.1 hx).2) hr

/-! ### A beginning of a right array is right -/
theorem itemsV_ge : ∀ (l : List Arr) (d wt d' wt' : Int), 0 ≤ wt → wt ≤ 262145 → itemsV l d wt = some (d', wt') → d ≤ d' ∧ wt ≤ wt'
  | [], d, wt, d', wt', _, _, h => by rw [itemsV] at h; cases h; omega
  | x :: r, d, wt, d', wt', h0, h1, h => by
    have hb := visitV_bd _ x (Nat.lt_succ_self _)
    rw [itemsV] at h
    split at h
    · cases h
    · have := itemsV_ge r _ _ d' wt' (by omega) (by omega) h
      omega
theorem itemsV_take : ∀ (l : List Arr) (N : Nat) (d0 d wt0 wt d' wt' : Int), d0 ≤ d → 0 ≤ wt0 → wt0 ≤ wt → wt ≤ 262145 → itemsV l d wt = some (d', wt') → ∃ d2 wt2, itemsV (l.take N) d0 wt0 = some (d2, wt2) ∧ d2 ≤ d' ∧ wt2 ≤ wt'
  | [], N, d0, d, wt0, wt, d', wt', h0, h1, h2, h3, h => by
    rw [itemsV] at h
    cases h
    exact ⟨d0, wt0, by rw [List.take_nil, itemsV], h0, h2⟩
  | x :: r, 0, d0, d, wt0, wt, d', wt', h0, h1, h2, h3, h => by
    have := itemsV_ge (x :: r) d wt d' wt' (by omega) h3 h
    exact ⟨d0, wt0, by rw [List.take_zero, itemsV], by omega, by omega⟩
  | x :: r, N + 1, d0, d, wt0, wt, d', wt', h0, h1, h2, h3, h => by
    have hb := visitV_bd _ x (Nat.lt_succ_self _)
    rw [itemsV] at h
    split at h
    · cases h
    · rename_i hx
      obtain ⟨d2, wt2, e1, e2, e3⟩ := itemsV_take r N (max d0 ((visitV x).2.1 + 1)) _ (min (wt0 + (visitV x).2.2) 262145) _ d' wt' (by omega) (by omega) (by omega) (by omega) h
      exact ⟨d2, wt2, by rw [List.take_succ_cons, itemsV, if_neg hx]; exact e1, e2, e3⟩
theorem right_take {k : Int} {s s2 n : List Int} {it : List Arr} (N : Nat) (hr : rightV (.mk k s n it) = 0) (hs2 : shapeRight s2 = true) (hN : (N : Int) = shapeSize s2) (hle : N ≤ (shapeSize s).toNat) : rightV (.mk k s2 (n.take N) (it.take N)) = 0 := by
  obtain ⟨a1, a2, a3, a4, a5⟩ := right_parts hr
  have h2 := shapeRight_go hs2
  have hf2 := rightGo_nonneg s2 1 h2.1
  have hsh := shapeSize_hi s
  have hneg : s2.any isNeg = false := by
    rw [List.any_eq_false]
    intro x hx
    have := hf2 x hx
    simp [isNeg]; omega
  have hfo : formV (.mk k s n it) = 0 := by
    unfold rightV visitV at hr
    by_cases h1 : formV (.mk k s n it) = 0
    · exact h1
    · rw [if_pos h1] at hr; exact absurd hr h1
  have hform : formV (.mk k s2 (n.take N) (it.take N)) = 0 := by
    show (if k = 3 then formOf k s2 (it.take N).length (n.take N).length else formOf k s2 (n.take N).length (it.take N).length) = 0
    have key : ∀ a b : Nat, (a : Int) = shapeSize s2 → b = 0 → formOf k s2 a b = 0 := by
      intro a b ha hb
      unfold formOf
      rw [if_neg (by omega), if_neg (by omega), if_neg (by simp [hneg]), if_neg (by simp [hs2]), if_neg (by simp [ha]), if_neg (by omega)]
    split
    · rename_i h3
      obtain ⟨e1, e2⟩ := a5 h3
      exact key _ _ (by rw [List.length_take]; omega) (by simp [e1])
    · rename_i h3
      obtain ⟨e1, e2⟩ := a4 h3
      exact key _ _ (by rw [List.length_take]; omega) (by simp [e1])
  unfold rightV at hr ⊢
  rw [visitV, if_neg (by simp [hfo])] at hr
  rw [visitV, if_neg (by simp [hform])]
  split at hr
  · cases hr
  · rename_i hb
    have hb2 : ¬ (n.take N).any (badNum k) = true := by
      intro h
      apply hb
      rw [List.any_eq_true] at h ⊢
      obtain ⟨x, hx, e⟩ := h
      exact ⟨x, List.mem_of_mem_take hx, e⟩
    rw [if_neg hb2]
    cases hi : itemsV it 0 ((n.length : Int) + it.length) with
    | none => rw [hi] at hr; cases hr
    | some p =>
      obtain ⟨d', wt'⟩ := p
      rw [hi] at hr
      have hlen : (n.length : Int) + it.length ≤ 65536 := by
        by_cases h3 : k = 3
        · obtain ⟨e1, e2⟩ := a5 h3
          simp [e1]; omega
        · obtain ⟨e1, e2⟩ := a4 h3
          simp [e1]; omega
      obtain ⟨d2, wt2, e1, e2, e3⟩ := itemsV_take it N 0 0 (((n.take N).length : Int) + (it.take N).length) _ d' wt' (by omega) (by omega) (by simp only [List.length_take]; omega) (by omega) hi
      rw [e1]
      dsimp only at hr ⊢
      split at hr
      · cases hr
      · rename_i hc
        rw [if_neg (by omega)]

/-! ### Taking twice -/
theorem takeV_one {nn : Int} (h0 : 0 ≤ nn) (h1 : nn ≤ 1000) {k s0 : Int} {s tl n : List Int} {it : List Arr} (hr : rightV (.mk k s n it) = 0) (hy : (if s.length = 0 then [1] else s) = s0 :: tl) :
    takeV (vecV [nn]) (.mk k s n it) = buildV (nn :: tl) (fun _ i => i) (.mk k (s0 :: tl) n it) := by
  have he := tkErr_vec (l := [nn]) (fun a ha => by rw [List.mem_singleton] at ha; omega) hr (by rw [List.length_singleton]; omega) (by simp)
  unfold takeV
  rw [if_neg (by simp [he])]
  have hz : tkY [nn].length (.mk k s n it) = .mk k (s0 :: tl) n it := by
    rw [tkY, ← hy]
    rfl
  show buildV (withL takeF [nn] (tkS (tkY [nn].length (.mk k s n it)))) (takeFr [nn] (tkS (tkY [nn].length (.mk k s n it)))) (tkY [nn].length (.mk k s n it)) = _
  rw [hz]
  have hw : withL takeF [nn] (s0 :: tl) = nn :: tl := by
    rw [withL, withL_nil]
    unfold takeF
    congr 1
    omega
  have hfr : takeFr [nn] (s0 :: tl) = fun _ i => i := by
    funext a i
    exact takeFr_id (fun x hx => by rw [List.mem_singleton] at hx; omega) a i
  show buildV (withL takeF [nn] (s0 :: tl)) (takeFr [nn] (s0 :: tl)) _ = _
  rw [hw, hfr]
theorem right_less {m nn : Int} {tl : List Int} (h0 : 0 ≤ m) (h1 : m ≤ nn) (hr : shapeRight (nn :: tl) = true) : shapeRight (m :: tl) = true := by
  obtain ⟨h2, h3⟩ := shapeRight_go hr
  have hb := rightGo_nonneg _ 1 h2 nn (by simp)
  have : rightGo 1 (m :: tl) = true := by
    by_cases hm : m = 0
    · rw [rightGo, if_neg (by omega), if_pos hm]
      exact rightGo_tail h2
    · obtain ⟨a1, a2, a3, a4⟩ := rightGo_cons h2 (show nn ≠ 0 by omega)
      rw [rightGo, if_neg (by omega), if_neg hm, if_neg (by omega)]
      exact rightGo_le tl _ _ (by omega) (by omega) a4
  simp [shapeRight, this]
  simpa using h3
def idF : Nat → Int → Int := fun _ i => i
theorem within_less {m nn : Int} {tl t : List Int} (h1 : m ≤ nn) (h : Within (m :: tl) t) : Within (nn :: tl) t := by
  refine ⟨by simpa using h.1, fun j hj => ?_⟩
  have := h.2 j (by simpa using hj)
  cases j with
  | zero => simp at this ⊢; omega
  | succ j => simpa using this
theorem W_head (a b : Int) (tl t : List Int) : Go.Proofs.Ytcmnlnamgnbemaa.W (a :: tl) t = Go.Proofs.Ytcmnlnamgnbemaa.W (b :: tl) t := by
  cases t with
  | nil => rfl
  | cons x q => rfl

/-- Elements of the shorter array: as of the longer one. -/
theorem bld_twice {m nn k s0 : Int} {tl n : List Int} {it : List Arr} (h0 : 0 ≤ m) (h1 : m ≤ nn) (hr : shapeRight (nn :: tl) = true) {kc : Int} {sc nc : List Int} {ic : List Arr} (hc : bldV (nn :: tl) (fun _ i => i) (.mk k (s0 :: tl) n it) = .mk kc sc nc ic) :
    bldV (m :: tl) (fun _ i => i) (.mk kc sc nc ic) = bldV (m :: tl) (fun _ i => i) (.mk k (s0 :: tl) n it) ∧ bldV (m :: tl) (fun _ i => i) (.mk k (s0 :: tl) n it) = .mk k (m :: tl) (nc.take (shapeSize (m :: tl)).toNat) (ic.take (shapeSize (m :: tl)).toNat) ∧
      (shapeSize (m :: tl)).toNat ≤ (shapeSize (nn :: tl)).toNat := by
  have hr2 := right_less h0 h1 hr
  have hc' : Arr.mk k (nn :: tl) (if k = 3 then [] else movedGo (bldN k (s0 :: tl) n fun _ i => i) (nn :: tl) (shapeSize (nn :: tl)).toNat (List.replicate (nn :: tl).length 0)) (if k = 3 then movedGo (bldI (s0 :: tl) it fun _ i => i) (nn :: tl) (shapeSize (nn :: tl)).toNat (List.replicate (nn :: tl).length 0) else []) = .mk kc sc nc ic := hc
  rw [movedGo_all, movedGo_all] at hc'
  cases hc'
  have key : ∀ i : Nat, i < (shapeSize (m :: tl)).toNat → i < (shapeSize (nn :: tl)).toNat ∧ srcGo (fun _ i => i) 0 (nn :: tl) (idxOf (m :: tl) i) 0 = some (i : Int) ∧ idxOf (nn :: tl) i = idxOf (m :: tl) i := by
    intro i hi
    obtain ⟨hp, hsz⟩ := pos_of_size hr2 (by omega)
    have ht : Within (m :: tl) (idxOf (m :: tl) i) := idxOf_within _ _ (shapeRight_go hr2).1 (by omega) (by rw [pp_prodA _ 1 hp]; omega)
    have ht2 := within_less h1 ht
    have hp2 : Pos (nn :: tl) := fun j hj => by have := ht2.2 j hj; omega
    have hw : Go.Proofs.Ytcmnlnamgnbemaa.W (nn :: tl) (idxOf (m :: tl) i) = i := by
      rw [W_head nn m, W_idxOf _ _ hp (by omega) (by omega)]
    have hb := W_bd _ _ hp2 ht2
    have hsz2 : shapeSize (nn :: tl) = pp (nn :: tl) := by
      unfold shapeSize
      rw [if_pos hr, ← prodA_volOf, pp_prodA _ 1 hp2, Int.one_mul]
    refine ⟨by omega, ?_, ?_⟩
    · rw [src_within (fun _ _ => rfl) ht2, hw]
    · have := idxOf_W (nn :: tl) _ hp2 ht2
      rw [hw] at this
      exact this
  have hle : (shapeSize (m :: tl)).toNat ≤ (shapeSize (nn :: tl)).toNat := by
    rcases Nat.eq_zero_or_pos (shapeSize (m :: tl)).toNat with h | h
    · omega
    · have := (key ((shapeSize (m :: tl)).toNat - 1) (by omega)).1
      omega
  have tk : ∀ {α : Type} (f : Nat → α) (a b : Nat), a ≤ b → ((List.range b).map f).take a = (List.range a).map f := by
    intro α f a b hab
    rw [← List.map_take, List.take_range, Nat.min_eq_left hab]
  have gd : ∀ {α : Type} (f : Nat → α) (d : α) (a b : Nat), a < b → ((List.range b).map f).getD a d = f a := by
    intro α f d a b hab
    simp [List.getD, hab]
  refine ⟨?_, ?_, hle⟩
  · show Arr.mk k (m :: tl) (if k = 3 then [] else movedGo (bldN k (nn :: tl) _ fun _ i => i) (m :: tl) (shapeSize (m :: tl)).toNat (List.replicate (m :: tl).length 0)) (if k = 3 then movedGo (bldI (nn :: tl) _ fun _ i => i) (m :: tl) (shapeSize (m :: tl)).toNat (List.replicate (m :: tl).length 0) else []) =
      Arr.mk k (m :: tl) (if k = 3 then [] else movedGo (bldN k (s0 :: tl) n fun _ i => i) (m :: tl) (shapeSize (m :: tl)).toNat (List.replicate (m :: tl).length 0)) (if k = 3 then movedGo (bldI (s0 :: tl) it fun _ i => i) (m :: tl) (shapeSize (m :: tl)).toNat (List.replicate (m :: tl).length 0) else [])
    simp only [movedGo_all]
    congr 1
    · split
      · rfl
      · apply List.map_congr_left
        intro i hi
        obtain ⟨k1, k2, k3⟩ := key i (List.mem_range.1 hi)
        rw [bldN, k2]
        simp only [Int.toNat_natCast]
        rw [gd _ _ _ _ k1, k3]
    · split
      · apply List.map_congr_left
        intro i hi
        obtain ⟨k1, k2, k3⟩ := key i (List.mem_range.1 hi)
        rw [bldI, k2]
        simp only [Int.toNat_natCast]
        rw [gd _ _ _ _ k1, k3]
      · rfl
  · show Arr.mk k (m :: tl) (if k = 3 then [] else movedGo (bldN k (s0 :: tl) n fun _ i => i) (m :: tl) (shapeSize (m :: tl)).toNat (List.replicate (m :: tl).length 0)) (if k = 3 then movedGo (bldI (s0 :: tl) it fun _ i => i) (m :: tl) (shapeSize (m :: tl)).toNat (List.replicate (m :: tl).length 0) else []) = _
    simp only [movedGo_all]
    congr 1
    · split
      · simp
      · rw [tk _ _ _ hle]
        apply List.map_congr_left
        intro i hi
        obtain ⟨k1, k2, k3⟩ := key i (List.mem_range.1 hi)
        rw [k3]
    · split
      · rw [tk _ _ _ hle]
        apply List.map_congr_left
        intro i hi
        obtain ⟨k1, k2, k3⟩ := key i (List.mem_range.1 hi)
        rw [k3]
      · simp

theorem take_twice {m nn : Int} (h0 : 0 ≤ m) (h1 : m ≤ nn) (h2 : nn ≤ 1000) {k : Int} {s n : List Int} {it : List Arr} (hr : rightV (.mk k s n it) = 0) :
    (takeV (vecV [nn]) (.mk k s n it)).2 = 21 ∨ ((takeV (vecV [nn]) (.mk k s n it)).2 = 0 ∧ ∃ d, takeV (vecV [m]) (takeV (vecV [nn]) (.mk k s n it)).1 = (d, 0) ∧ takeV (vecV [m]) (.mk k s n it) = (d, 0)) := by
  obtain ⟨s0, tl, hy⟩ : ∃ s0 tl, (if s.length = 0 then [1] else s) = s0 :: tl := by
    cases s with
    | nil => exact ⟨1, [], rfl⟩
    | cons a r => exact ⟨a, r, rfl⟩
  have e1 := takeV_one (by omega) h2 hr hy
  have e2 := takeV_one h0 (by omega) hr hy
  rw [e1, e2]
  unfold buildV
  by_cases hc : shapeRight (nn :: tl) = false
  · left; rw [if_pos hc]
  rw [if_neg hc]
  by_cases hcr : rightV (bldV (nn :: tl) (fun _ i => i) (.mk k (s0 :: tl) n it)) ≠ 0
  · left; rw [if_pos hcr]
  rw [if_neg hcr]
  right
  have hcr' : rightV (bldV (nn :: tl) (fun _ i => i) (.mk k (s0 :: tl) n it)) = 0 := by simpa using hcr
  have hshr : shapeRight (nn :: tl) = true := by simpa using hc
  generalize hbc : bldV (nn :: tl) (fun _ i => i) (.mk k (s0 :: tl) n it) = c at *
  obtain ⟨kc, sc, nc, ic⟩ := c
  obtain ⟨b1, b2, b3⟩ := bld_twice h0 h1 hshr hbc
  have hr2 := right_less h0 h1 hshr
  have hsc : sc = nn :: tl ∧ kc = k := by
    have : Arr.mk k (nn :: tl) (if k = 3 then [] else movedGo (bldN k (s0 :: tl) n fun _ i => i) (nn :: tl) (shapeSize (nn :: tl)).toNat (List.replicate (nn :: tl).length 0)) (if k = 3 then movedGo (bldI (s0 :: tl) it fun _ i => i) (nn :: tl) (shapeSize (nn :: tl)).toNat (List.replicate (nn :: tl).length 0) else []) = .mk kc sc nc ic := hbc
    cases this
    exact ⟨rfl, rfl⟩
  obtain ⟨rfl, rfl⟩ := hsc
  have e3 := takeV_one h0 (by omega) hcr' (s0 := nn) (tl := tl) (by simp)
  have hszm : 0 ≤ shapeSize (m :: tl) := by
    unfold shapeSize
    rw [if_pos hr2, ← prodA_volOf]
    exact prodA_nonneg _ 1 (by omega) (shapeRight_go hr2).1
  have hrd : rightV (bldV (m :: tl) (fun _ i => i) (.mk kc (s0 :: tl) n it)) = 0 := by
    rw [b2]
    exact right_take _ hcr' hr2 (by omega) b3
  refine ⟨rfl, bldV (m :: tl) (fun _ i => i) (.mk kc (s0 :: tl) n it), ?_, ?_⟩
  · show takeV (vecV [m]) (.mk kc (nn :: tl) nc ic) = _
    rw [e3]
    unfold buildV
    rw [if_neg (by simp [hr2]), b1, if_neg (by simp [hrd])]
  · rw [if_neg (by simp [hr2]), if_neg (by simp [hrd])]
end Go.Proofs.Ytcmnlnamgnbemaa
