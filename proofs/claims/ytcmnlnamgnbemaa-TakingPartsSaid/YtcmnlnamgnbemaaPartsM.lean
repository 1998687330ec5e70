/-
  THE WALK of law19.TakingParts: it returns true, and turns nothing that was there. (Printed by gen_parts.py.)
-/
import Derived.Test.YtcmnlnamgnbemaaTkAllLaw
import Derived.Test.YtcmnlnamgnbemaaChain
import Derived.Test.YtcmnlnamgnbemaaMkR
import Derived.Test.YtcmnlnamgnbemaaLives
namespace Go.Proofs.Ytcmnlnamgnbemaa
set_option linter.unusedSimpArgs false
set_option linter.unusedVariables false
open Go.RowKit

/-- What after makes. -/
def afterV : Arr → Arr → Arr
  | .mk ka sa na ia, .mk _ sb nb ib => .mk ka (sa.set 0 (sa.getD 0 0 + sb.getD 0 0)) (na ++ nb) (ia ++ ib)

theorem itemsV_drop : ∀ (l : List Arr) (N : Nat) (d0 d wt0 wt d' wt' : Int), d0 ≤ d → 0 ≤ wt0 → wt0 ≤ wt → wt ≤ 262145 → itemsV l d wt = some (d', wt') → ∃ d2 wt2, itemsV (l.drop N) d0 wt0 = some (d2, wt2) ∧ d2 ≤ d' ∧ wt2 ≤ wt'
  | l, 0, d0, d, wt0, wt, d', wt', h0, h1, h2, h3, h => by
    have := itemsV_take l l.length d0 d wt0 wt d' wt' h0 h1 h2 h3 h
    rwa [List.take_length] at this
  | [], N + 1, d0, d, wt0, wt, d', wt', h0, h1, h2, h3, h => by
    rw [itemsV] at h
    cases h
    exact ⟨d0, wt0, by rw [List.drop_nil, itemsV], h0, h2⟩
  | x :: r, N + 1, d0, d, wt0, wt, d', wt', h0, h1, h2, h3, h => by
    have hb := visitV_bd _ x (Nat.lt_succ_self _)
    rw [itemsV] at h
    split at h
    · cases h
    · rw [List.drop_succ_cons]
      exact itemsV_drop r N d0 _ wt0 _ d' wt' (by omega) h1 (by omega) (by omega) h
theorem right_drop {k : Int} {s s2 n : List Int} {it : List Arr} (N M : Nat) (hr : rightV (.mk k s n it) = 0) (hs2 : shapeRight s2 = true) (hM : (M : Int) = shapeSize s2) (hle : N + M = (shapeSize s).toNat) : rightV (.mk k s2 (n.drop N) (it.drop N)) = 0 := by
  obtain ⟨a1, a2, a3, a4, a5⟩ := right_parts hr
  have h2 := shapeRight_go hs2
  have hf2 := rightGo_nonneg s2 1 h2.1
  have hsh := shapeSize_hi s
  have hneg : s2.any isNeg = false := by
    rw [List.any_eq_false]
    intro x hx
    have := hf2 x hx
    simp [isNeg]; omega
  have hfo : formV (.mk k s n it) = 0 := by
    unfold rightV visitV at hr
    by_cases h1 : formV (.mk k s n it) = 0
    · exact h1
    · rw [if_pos h1] at hr; exact absurd hr h1
  have hform : formV (.mk k s2 (n.drop N) (it.drop N)) = 0 := by
    show (if k = 3 then formOf k s2 (it.drop N).length (n.drop N).length else formOf k s2 (n.drop N).length (it.drop N).length) = 0
    have key : ∀ a b : Nat, (a : Int) = shapeSize s2 → b = 0 → formOf k s2 a b = 0 := by
      intro a b ha hb
      unfold formOf
      rw [if_neg (by omega), if_neg (by omega), if_neg (by simp [hneg]), if_neg (by simp [hs2]), if_neg (by simp [ha]), if_neg (by omega)]
    split
    · rename_i h3
      obtain ⟨e1, e2⟩ := a5 h3
      exact key _ _ (by rw [List.length_drop]; omega) (by simp [e1])
    · rename_i h3
      obtain ⟨e1, e2⟩ := a4 h3
      exact key _ _ (by rw [List.length_drop]; omega) (by simp [e1])
  unfold rightV at hr ⊢
  rw [visitV, if_neg (by simp [hfo])] at hr
  rw [visitV, if_neg (by simp [hform])]
  split at hr
  · cases hr
  · rename_i hb
    have hb2 : ¬ (n.drop N).any (badNum k) = true := by
      intro h
      apply hb
      rw [List.any_eq_true] at h ⊢
      obtain ⟨x, hx, e⟩ := h
      exact ⟨x, List.mem_of_mem_drop hx, e⟩
    rw [if_neg hb2]
    cases hi : itemsV it 0 ((n.length : Int) + it.length) with
    | none => rw [hi] at hr; cases hr
    | some p =>
      obtain ⟨d', wt'⟩ := p
      rw [hi] at hr
      have hlen : (n.length : Int) + it.length ≤ 65536 := by
        by_cases h3 : k = 3
        · obtain ⟨e1, e2⟩ := a5 h3
          simp [e1]; omega
        · obtain ⟨e1, e2⟩ := a4 h3
          simp [e1]; omega
      obtain ⟨d2, wt2, e1, e2, e3⟩ := itemsV_drop it N 0 0 (((n.drop N).length : Int) + (it.drop N).length) _ d' wt' (by omega) (by omega) (by simp only [List.length_drop]; omega) (by omega) hi
      rw [e1]
      dsimp only at hr ⊢
      split at hr
      · cases hr
      · rename_i hc
        rw [if_neg (by omega)]

theorem srcGo_id1 {fr : Nat → Int → Int} : ∀ (s t : List Int) (a : Nat) (acc : Int), (∀ a', a ≤ a' → ∀ i, fr a' i = i) → srcGo fr a s t acc = offGo acc s t
  | [], t, a, acc, _ => by unfold srcGo offGo; rfl
  | _ :: _, [], a, acc, _ => by unfold srcGo offGo; rfl
  | d :: r, x :: q, a, acc, h => by rw [srcGo, offGo, h a (Nat.le_refl _), srcGo_id1 r q (a + 1) _ (fun a' h' => h a' (by omega))]
theorem size_cons {c : Int} {tl : List Int} (hc : 0 ≤ c) (hr : shapeRight (c :: tl) = true) : shapeSize (c :: tl) = c * prodA 1 tl := by
  unfold shapeSize
  rw [if_pos hr, ← prodA_volOf, prodA]
  split
  · rename_i h; rw [h]; simp
  · rw [prodA_scale, Int.one_mul]

/-- The last cells. -/
theorem bld_last {fr : Nat → Int → Int} {k c s0 : Int} {tl n : List Int} {it : List Arr} (h0 : 0 ≤ c) (h1 : c ≤ s0) (hr : rightV (.mk k (s0 :: tl) n it) = 0) (hf0 : ∀ i, fr 0 i = i + c) (hf1 : ∀ a, 1 ≤ a → ∀ i, fr a i = i) :
    bldV ((s0 - c) :: tl) fr (.mk k (s0 :: tl) n it) = .mk k ((s0 - c) :: tl) (n.drop (shapeSize (c :: tl)).toNat) (it.drop (shapeSize (c :: tl)).toNat) ∧ (shapeSize (c :: tl)).toNat + (shapeSize ((s0 - c) :: tl)).toNat = (shapeSize (s0 :: tl)).toNat := by
  obtain ⟨a1, a2, a3, a4, a5⟩ := right_parts hr
  have hsr : shapeRight (s0 :: tl) = true := by simp only [shapeRight, a3, Bool.and_true, decide_eq_true_eq]; exact a2
  have hr1 : shapeRight (c :: tl) = true := right_less h0 h1 hsr
  have hr2 : shapeRight ((s0 - c) :: tl) = true := right_less (by omega) (by omega) hsr
  have e0 := size_cons (by omega) hsr
  have e1 := size_cons h0 hr1
  have e2 := size_cons (by omega) hr2
  have hP : 0 ≤ prodA 1 tl := prodA_nonneg tl 1 (by omega) (rightGo_tail a3)
  have hc1 : 0 ≤ c * prodA 1 tl := Int.mul_nonneg h0 hP
  have hc2 : 0 ≤ (s0 - c) * prodA 1 tl := Int.mul_nonneg (by omega) hP
  have hsum : c * prodA 1 tl + (s0 - c) * prodA 1 tl = s0 * prodA 1 tl := by rw [← Int.add_mul]; congr 1; omega
  have hsz : (shapeSize (c :: tl)).toNat + (shapeSize ((s0 - c) :: tl)).toNat = (shapeSize (s0 :: tl)).toNat := by omega
  have key : ∀ i : Nat, i < (shapeSize ((s0 - c) :: tl)).toNat → srcGo fr 0 (s0 :: tl) (idxOf ((s0 - c) :: tl) i) 0 = some (((shapeSize (c :: tl)).toNat + i : Nat) : Int) := by
    intro i hi
    obtain ⟨hp, hsz2⟩ := pos_of_size hr2 (by omega)
    have ht : Within ((s0 - c) :: tl) (idxOf ((s0 - c) :: tl) i) := idxOf_within _ _ (shapeRight_go hr2).1 (by omega) (by rw [pp_prodA _ 1 hp]; omega)
    have hw := W_idxOf ((s0 - c) :: tl) i hp (by omega) (by omega)
    have hpt := hp.tail
    generalize idxOf ((s0 - c) :: tl) i = t at *
    match t, ht, hw with
    | [], ht, _ => have := ht.1; simp at this
    | t0 :: tq, ht, hw =>
      have hh := ht.head
      rw [Go.Proofs.Ytcmnlnamgnbemaa.W] at hw
      rw [srcGo, hf0, if_neg (by omega), srcGo_id1 tl tq 1 _ (fun a ha i => hf1 a ha i), offGo_W tl tq _ ht.tail]
      have hpp : prodA 1 tl = pp tl := by rw [pp_prodA tl 1 hpt, Int.one_mul]
      rw [hpp] at e1
      congr 1
      rw [Int.zero_mul, Int.zero_add, Int.add_mul]
      have : 0 ≤ c * pp tl := by rw [← hpp]; exact hc1
      omega
  refine ⟨?_, hsz⟩
  show Arr.mk k ((s0 - c) :: tl) (if k = 3 then [] else movedGo (bldN k (s0 :: tl) n fr) ((s0 - c) :: tl) (shapeSize ((s0 - c) :: tl)).toNat (List.replicate ((s0 - c) :: tl).length 0)) (if k = 3 then movedGo (bldI (s0 :: tl) it fr) ((s0 - c) :: tl) (shapeSize ((s0 - c) :: tl)).toNat (List.replicate ((s0 - c) :: tl).length 0) else []) = _
  have dr : ∀ {α : Type} (l : List α) (d : α) (A B : Nat), A + B = l.length → (List.range B).map (fun i => l.getD (A + i) d) = l.drop A := by
    intro α l d A B hAB
    apply List.ext_getElem (by simp; omega)
    intro i h1 h2
    simp at h1
    simp [List.getD, show A + i < l.length by omega]
  simp only [movedGo_all]
  congr 1
  · split
    · rename_i h3; rw [(a5 h3).1]; simp
    · rename_i h3
      have hN := (a4 h3).2
      rw [← dr n 0 _ (shapeSize ((s0 - c) :: tl)).toNat (by omega)]
      apply List.map_congr_left
      intro i hi
      rw [bldN, key i (List.mem_range.1 hi)]
      show n.getD (Int.toNat (((shapeSize (c :: tl)).toNat + i : Nat) : Int)) 0 = _
      rw [Int.toNat_natCast]
  · split
    · rename_i h3
      have hN := (a5 h3).2
      rw [← dr it default _ (shapeSize ((s0 - c) :: tl)).toNat (by omega)]
      apply List.map_congr_left
      intro i hi
      rw [bldI, key i (List.mem_range.1 hi)]
      show it.getD (Int.toNat (((shapeSize (c :: tl)).toNat + i : Nat) : Int)) default = _
      rw [Int.toNat_natCast]
    · rename_i h3; rw [(a4 h3).1]; simp
/-- The first cells. -/
theorem bld_first {fr : Nat → Int → Int} (hfr : ∀ a i, fr a i = i) {k c s0 : Int} {tl n : List Int} {it : List Arr} (h0 : 0 ≤ c) (h1 : c ≤ s0) (hr : rightV (.mk k (s0 :: tl) n it) = 0) :
    bldV (c :: tl) fr (.mk k (s0 :: tl) n it) = .mk k (c :: tl) (n.take (shapeSize (c :: tl)).toNat) (it.take (shapeSize (c :: tl)).toNat) ∧ (shapeSize (c :: tl)).toNat ≤ (shapeSize (s0 :: tl)).toNat := by
  obtain ⟨a1, a2, a3, a4, a5⟩ := right_parts hr
  have hsr : shapeRight (s0 :: tl) = true := by simp only [shapeRight, a3, Bool.and_true, decide_eq_true_eq]; exact a2
  have hfe : fr = fun _ i => i := by funext a i; exact hfr a i
  subst hfe
  have hs := bld_self (fr := fun _ i => i) (fun _ _ => rfl) a2 a3 a4 a5
  obtain ⟨_, b2, b3⟩ := bld_twice h0 h1 hsr hs
  exact ⟨b2, b3⟩
theorem after_parts {k c s0 : Int} {tl n : List Int} {it : List Arr} (N : Nat) : afterV (.mk k (c :: tl) (n.take N) (it.take N)) (.mk k ((s0 - c) :: tl) (n.drop N) (it.drop N)) = .mk k (s0 :: tl) n it := by
  show Arr.mk k ((c :: tl).set 0 ((c :: tl).getD 0 0 + ((s0 - c) :: tl).getD 0 0)) (n.take N ++ n.drop N) (it.take N ++ it.drop N) = _
  rw [List.take_append_drop, List.take_append_drop]
  congr 1
  simp
  omega

theorem take_drop_parts {n0 : Int} {k s0 : Int} {tl n : List Int} {it : List Arr} (hr : rightV (.mk k (s0 :: tl) n it) = 0) (h1 : n0 ≤ s0) (h2 : -s0 ≤ n0) :
    ∃ ka sa na ia kb sb nb ib, takeV (vecV [n0]) (.mk k (s0 :: tl) n it) = (.mk ka sa na ia, 0) ∧ dropV (vecV [n0]) (.mk k (s0 :: tl) n it) = (.mk kb sb nb ib, 0) ∧ (sa.length = tl.length + 1 ∧ sb.length = tl.length + 1) ∧ ((0 ≤ sa.getD 0 0 ∧ sa.getD 0 0 ≤ 65536) ∧ (0 ≤ sb.getD 0 0 ∧ sb.getD 0 0 ≤ 65536)) ∧ (na.length + nb.length ≤ n.length ∧ ia.length + ib.length ≤ it.length) ∧
      (if n0 < 0 then afterV (.mk kb sb nb ib) (.mk ka sa na ia) else afterV (.mk ka sa na ia) (.mk kb sb nb ib)) = .mk k (s0 :: tl) n it := by
  obtain ⟨a1, a2, a3, a4, a5⟩ := right_parts hr
  have hf := rightGo_nonneg _ 1 a3 s0 (by simp)
  have hsr : shapeRight (s0 :: tl) = true := by simp only [shapeRight, a3, Bool.and_true, decide_eq_true_eq]; exact a2
  have he := tkErr_vec (l := [n0]) (fun a ha => by rw [List.mem_singleton] at ha; omega) hr (by simp) (by simp)
  have hz : tkY [n0].length (.mk k (s0 :: tl) n it) = .mk k (s0 :: tl) n it := by
    rw [tkY, if_neg (by simp)]
  have hT : takeV (vecV [n0]) (.mk k (s0 :: tl) n it) = buildV (max n0 (-n0) :: tl) (takeFr [n0] (s0 :: tl)) (.mk k (s0 :: tl) n it) := by
    unfold takeV
    rw [if_neg (by simp [he])]
    show buildV (withL takeF [n0] (tkS (tkY [n0].length (.mk k (s0 :: tl) n it)))) (takeFr [n0] (tkS (tkY [n0].length (.mk k (s0 :: tl) n it)))) (tkY [n0].length (.mk k (s0 :: tl) n it)) = _
    rw [hz]
    show buildV (withL takeF [n0] (s0 :: tl)) (takeFr [n0] (s0 :: tl)) _ = _
    rw [withL, withL_nil]
    rfl
  have hD : dropV (vecV [n0]) (.mk k (s0 :: tl) n it) = buildV ((s0 - max n0 (-n0)) :: tl) (dropFr [n0]) (.mk k (s0 :: tl) n it) := by
    unfold dropV
    rw [if_neg (by simp [he])]
    show buildV (withL dropF [n0] (tkS (tkY [n0].length (.mk k (s0 :: tl) n it)))) (dropFr [n0]) (tkY [n0].length (.mk k (s0 :: tl) n it)) = _
    rw [hz]
    show buildV (withL dropF [n0] (s0 :: tl)) (dropFr [n0]) _ = _
    rw [withL, withL_nil]
    unfold dropF
    rw [show max (s0 - max n0 (-n0)) 0 = s0 - max n0 (-n0) by omega]
  rw [hT, hD]
  have fin : ∀ (sh : List Int) (fr : Nat → Int → Int) (t : Arr), shapeRight sh = true → bldV sh fr (.mk k (s0 :: tl) n it) = t → rightV t = 0 → buildV sh fr (.mk k (s0 :: tl) n it) = (t, 0) := by
    intro sh fr t h3 h4 h5
    unfold buildV
    rw [if_neg (by simp [h3]), h4, if_neg (by simp [h5])]
  by_cases hn : n0 < 0
  · have hm : max n0 (-n0) = s0 - (s0 + n0) := by omega
    have hm2 : s0 - max n0 (-n0) = s0 + n0 := by omega
    rw [hm2, hm]
    have hrF := right_less (m := s0 + n0) (by omega) (by omega) hsr
    have hrL := right_less (m := s0 - (s0 + n0)) (by omega) (by omega) hsr
    obtain ⟨f1, f2⟩ := bld_first (fr := dropFr [n0]) (fun a i => by
      unfold dropFr
      rw [if_neg]
      rintro ⟨h3, h4⟩
      have : a = 0 := by simpa using h3
      subst this
      simp at h4; omega) (c := s0 + n0) (by omega) (by omega) hr
    obtain ⟨g1, g2⟩ := bld_last (fr := takeFr [n0] (s0 :: tl)) (c := s0 + n0) (by omega) (by omega) hr (fun i => by
      unfold takeFr
      rw [if_pos ⟨by simp, by simpa using hn⟩]
      simp; omega) (fun a ha i => by
      unfold takeFr
      rw [if_neg]
      rintro ⟨h3, _⟩
      simp at h3; omega)
    have hsz : 0 ≤ shapeSize ((s0 + n0) :: tl) := by
      rw [size_cons (by omega) hrF]
      exact Int.mul_nonneg (by omega) (prodA_nonneg tl 1 (by omega) (rightGo_tail a3))
    have hsz2 : 0 ≤ shapeSize ((s0 - (s0 + n0)) :: tl) := by
      rw [size_cons (by omega) hrL]
      exact Int.mul_nonneg (by omega) (prodA_nonneg tl 1 (by omega) (rightGo_tail a3))
    refine ⟨_, _, _, _, _, _, _, _, fin _ _ _ hrL g1 (right_drop _ _ hr hrL (Int.toNat_of_nonneg hsz2) g2), fin _ _ _ hrF f1 (right_take _ hr hrF (Int.toNat_of_nonneg hsz) f2), ⟨by simp, by simp⟩, ⟨by simp; omega, by simp; omega⟩, ⟨by simp only [List.length_drop, List.length_take]; omega, by simp only [List.length_drop, List.length_take]; omega⟩, ?_⟩
    rw [if_pos hn]
    exact after_parts _
  · have hm : max n0 (-n0) = n0 := by omega
    rw [hm]
    have hrF := right_less (m := n0) (by omega) (by omega) hsr
    have hrL := right_less (m := s0 - n0) (by omega) (by omega) hsr
    obtain ⟨f1, f2⟩ := bld_first (fr := takeFr [n0] (s0 :: tl)) (fun a i => takeFr_id (fun x hx => by rw [List.mem_singleton] at hx; omega) a i) (c := n0) (by omega) (by omega) hr
    obtain ⟨g1, g2⟩ := bld_last (fr := dropFr [n0]) (c := n0) (by omega) (by omega) hr (fun i => by
      unfold dropFr
      by_cases h3 : 0 < n0
      · rw [if_pos ⟨by simp, by simpa using h3⟩]; simp
      · rw [if_neg (fun h => h3 (by simpa using h.2))]; omega) (fun a ha i => by
      unfold dropFr
      rw [if_neg]
      rintro ⟨h3, _⟩
      simp at h3; omega)
    have hsz : 0 ≤ shapeSize (n0 :: tl) := by
      rw [size_cons (by omega) hrF]
      exact Int.mul_nonneg (by omega) (prodA_nonneg tl 1 (by omega) (rightGo_tail a3))
    have hsz2 : 0 ≤ shapeSize ((s0 - n0) :: tl) := by
      rw [size_cons (by omega) hrL]
      exact Int.mul_nonneg (by omega) (prodA_nonneg tl 1 (by omega) (rightGo_tail a3))
    refine ⟨_, _, _, _, _, _, _, _, fin _ _ _ hrF f1 (right_take _ hr hrF (Int.toNat_of_nonneg hsz) f2), fin _ _ _ hrL g1 (right_drop _ _ hr hrL (Int.toNat_of_nonneg hsz2) g2), ⟨by simp, by simp⟩, ⟨by simp; omega, by simp; omega⟩, ⟨by simp only [List.length_drop, List.length_take]; omega, by simp only [List.length_drop, List.length_take]; omega⟩, ?_⟩
    rw [if_neg hn]
    exact after_parts _
end Go.Proofs.Ytcmnlnamgnbemaa

namespace Go.Proofs.Ytcmnlnamgnbemaa
set_option linter.unusedSimpArgs false
set_option linter.unusedVariables false

def ChainA (B : Nat) (R X : Nat → Prop) (w : World) (v : Value) (n : Nat) (l : List Arr) : Prop :=
  (n = 0 ∧ l = [] ∧ ∃ g, v = .slice (some ⟨g, 0, none⟩) 0 0 ∧ w.heap[g]? = some (.cells #[] 26 (0, 0)) ∧ B ≤ g ∧ ¬ X g) ∨
  (l.length = n ∧ (∃ cells, w.ownsRow B 26 4 v n cells ∧ CellsRead (fun b => R b ∧ ¬ X b) w cells l) ∧ ∃ g, v.ownBlock = some g ∧ X g)
theorem ChainA.mono {B : Nat} {R X X' : Nat → Prop} {w w' : World} {v : Value} {n : Nat} {l : List Arr} (h : ChainA B R X w v n l) (e : Ext w w') (hX : XGrow X w X') : ChainA B R X' w' v n l := by
  have ap : ∀ b, b < w.heap.size → ¬ X b → ¬ X' b := fun b hb hx hx' => by
    rcases hX.2 b hx' with h | h
    · exact hx h
    · omega
  rcases h with ⟨h1, h2, g, hv, hr, hb, hx⟩ | ⟨h1, ⟨cells, h2, h3⟩, g, hg, hx⟩
  · have hlt := (Array.getElem?_eq_some_iff.1 hr).1
    exact .inl ⟨h1, h2, g, hv, (e.block hlt).trans hr, hb, ap g hlt hx⟩
  · exact .inr ⟨h1, ⟨cells, ownsRow_same h2 fun g hg => e.block (h2.lt g hg).2, CellsRead.mono (fun b hb hlt => ⟨⟨hb.1, ap b hlt hb.2⟩, e.block hlt⟩) _ _ h3⟩, g, hg, hX.1 g hx⟩
def MProp.chainA (B : Nat) (R : Nat → Prop) (l : List Arr) : MProp := ⟨fun X w v => ∃ p c, v = .slice p l.length c ∧ ChainA B R X w (.slice p l.length c) l.length l, fun X X' w w' v e hX h => by
  obtain ⟨p, c, h1, h2⟩ := h
  exact ⟨p, c, h1, h2.mono e hX⟩⟩
/-- An empty row of arrays. -/
def MProp.rowA0 (B : Nat) : MProp := ⟨fun X w v => ∃ g, v = .slice (some ⟨g, 0, none⟩) 0 0 ∧ w.heap[g]? = some (.cells #[] 26 (0, 0)) ∧ B ≤ g ∧ ¬ X g, fun X X' w w' v e hX h => by
  obtain ⟨g, h1, h2, h3, h4⟩ := h
  have hlt := (Array.getElem?_eq_some_iff.1 h2).1
  refine ⟨g, h1, (e.block hlt).trans h2, h3, fun hx => ?_⟩
  rcases hX.2 g hx with h | h
  · exact h4 h
  · omega⟩
theorem zst_rowA0 (B : Nat) : ZSt (.rowA0 B) := fun X X' w w' v hc hx h => by
  obtain ⟨g, h1, h2, h3, h4⟩ := h
  have hlt := (Array.getElem?_eq_some_iff.1 h2).1
  refine ⟨g, h1, (hc.2 g hlt h4).trans h2, h3, fun hx' => ?_⟩
  rcases hx.2 g hx' with h | h
  · exact h4 h
  · omega
/-- A list of arrays. -/
def RdAX (R X : Nat → Prop) (w : World) (l : List Arr) (v : Value) : Prop := ∃ (p : Option Addr) (c : Nat), v = .slice p l.length c ∧ ItOk l.length c ∧ ItemsAt (fun b => (R b ∧ b < w.heap.size) ∧ ¬ X b) w p 0 l
def MProp.rda (R : Nat → Prop) (l : List Arr) : MProp := ⟨fun X w v => RdAX R X w l v, fun X X' w w' v e hX h => by
  obtain ⟨p, c, h1, h2, h3⟩ := h
  refine ⟨p, c, h1, h2, ItemsAt.mono (fun b hb hlt => ⟨⟨⟨hb.1.1, Nat.lt_of_lt_of_le hlt e.lt⟩, fun hx => ?_⟩, e.block hlt⟩) _ _ _ h3⟩
  rcases hX.2 b hx with h | h
  · exact hb.2 h
  · omega⟩
theorem zst_rda (R : Nat → Prop) (l : List Arr) : ZSt (.rda R l) := fun X X' w w' v hc hx h => by
  obtain ⟨p, c, h1, h2, h3⟩ := h
  refine ⟨p, c, h1, h2, ItemsAt.mono (fun b hb hlt => ⟨⟨⟨hb.1.1, Nat.lt_of_lt_of_le hlt hc.1⟩, fun hx' => ?_⟩, hc.2 b hlt hb.2⟩) _ _ _ h3⟩
  rcases hx.2 b hx' with h | h
  · exact hb.2 h
  · omega

theorem items_cells {F : Nat → Prop} {w : World} {b off : Nat} : ∀ (l : List Arr) (i : Nat), ItemsAt F w (some ⟨b, off, none⟩) i l →
    ∃ cells : List Value, cells.length = l.length * 4 ∧ (∀ j u, cells[j]? = some u → w.cell? ⟨b, off + i * 4 + j, none⟩ = some u) ∧ (∀ u ∈ cells, u.oneCell' = true) ∧ CellsRead F w cells l
  | [], _, _ => ⟨[], rfl, (fun j u h => by simp at h), (fun u h => by simp at h), (by unfold CellsRead; trivial)⟩
  | x :: r, i, h => by
    unfold ItemsAt at h
    obtain ⟨⟨b', off', c0, c1, c2, c3, hp, _, g0, g1, g2, g3, hx⟩, hr⟩ := h
    simp only [Option.some.injEq, Addr.mk.injEq, and_true] at hp
    obtain ⟨rfl, rfl⟩ := hp
    obtain ⟨cells, h1, h2, h3, h4⟩ := items_cells r (i + 1) hr
    refine ⟨c0 :: c1 :: c2 :: c3 :: cells, by simp [h1]; omega, fun j u hj => ?_, fun u hu => ?_, by unfold CellsRead; exact ⟨hx, h4⟩⟩
    · match j, hj with
      | 0, hj => simp at hj; subst hj; exact g0
      | 1, hj => simp at hj; subst hj; exact g1
      | 2, hj => simp at hj; subst hj; exact g2
      | 3, hj => simp at hj; subst hj; exact g3
      | j + 4, hj =>
        have := h2 j u (by simpa using hj)
        rw [show off + (i + 1) * 4 + j = off + i * 4 + (j + 4) by omega] at this
        exact this
    · simp only [List.mem_cons] at hu
      rcases hu with rfl | rfl | rfl | rfl | hu
      · exact hx.one _ (by simp)
      · exact hx.one _ (by simp)
      · exact hx.one _ (by simp)
      · exact hx.one _ (by simp)
      · exact h3 u hu
theorem CellsRead.append {F : Nat → Prop} {w : World} : ∀ (c1 : List Value) (l1 : List Arr) (c2 : List Value) (l2 : List Arr), CellsRead F w c1 l1 → CellsRead F w c2 l2 → CellsRead F w (c1 ++ c2) (l1 ++ l2)
  | [], [], c2, l2, _, h => h
  | a0 :: a1 :: a2 :: a3 :: cs, x :: r, c2, l2, h, h2 => by
    unfold CellsRead at h
    show CellsRead F w (a0 :: a1 :: a2 :: a3 :: (cs ++ c2)) (x :: (r ++ l2))
    unfold CellsRead
    exact ⟨h.1, CellsRead.append cs r c2 l2 h.2 h2⟩
  | [], _ :: _, _, _, h, _ => by unfold CellsRead at h; exact h.elim
  | [_], [], _, _, h, _ => by unfold CellsRead at h; exact h.elim
  | [_], _ :: _, _, _, h, _ => by unfold CellsRead at h; exact h.elim
  | [_, _], [], _, _, h, _ => by unfold CellsRead at h; exact h.elim
  | [_, _], _ :: _, _, _, h, _ => by unfold CellsRead at h; exact h.elim
  | [_, _, _], [], _, _, h, _ => by unfold CellsRead at h; exact h.elim
  | [_, _, _], _ :: _, _, _, h, _ => by unfold CellsRead at h; exact h.elim
  | _ :: _ :: _ :: _ :: _, [], _, _, h, _ => by unfold CellsRead at h; exact h.elim

/-- append(the chain's row of arrays, xs...) -/
theorem wpList_chainA {ops : Array Oper} {rest : List Oper} {o : Oper} {a : Act} {w : World} {Q : Exit → Act → World → Prop} (hgd : o.guard = none) (s x : Operand)
    (ho : o.op = .call { callee := .builtin .append, args := #[s, x], argTypes := #[24, 24] })
    (w0 : World) (R X : Nat → Prop) (v : Value) (n : Nat) (ys : List Arr) (p : Option Addr) (c : Nat) (xs : List Arr) (hs : a.eval s = v) (hown : ChainA w0.heap.size R X w v n ys) (hx : a.eval x = .slice p xs.length c) (hr : ItemsAt (fun b => (R b ∧ b < w.heap.size) ∧ ¬ X b) w p 0 xs)
    (hE : Ext w0 w) (hX : XIn X w0 w) (hn : n + xs.length ≤ 1759218604391)
    (h : ∀ v' w' (X' : Nat → Prop), Ext w0 w' → Chg X w w' → XGrow X w X' → XIn X' w0 w' → ChainA w0.heap.size R X' w' v' (n + xs.length) (ys ++ xs) → wpList Try.prog ops Q rest (a.put o.dst v') w') : wpList Try.prog ops Q (o :: rest) a w := by
  have hlt0 := hE.lt
  obtain ⟨i0, hi, hz0, hz1, hz2⟩ := info_parts infoA
  rcases hown with ⟨rfl, rfl, g, rfl, hrow, hgB, hgX⟩ | ⟨hyl, ⟨cells, hown, hcr⟩, g, hg, hgX⟩
  · cases xs with
    | nil =>
      refine wpList_plain hgd fun K hK => ?_
      have hrun := run_append_none (P := Try.prog) w 24 o.type 26 i0 Try.underlying24 hi (some ⟨g, 0, none⟩) 0 0 (Nat.le_refl _) p c
      unfold Oper.wp execOp
      simp only [ho, resolve, invoke, builtin, Sem.run_bind, Sem.run_pure, Result.andThen_ok, List.map_toArray, List.map_cons, List.map_nil, hs, hx, List.length_nil, hrun]
      exact hK _ _ (h _ _ X hE (Chg.of_ext (Ext.refl _)) kept_m hX (.inl ⟨rfl, rfl, g, rfl, hrow, hgB, hgX⟩))
    | cons x0 r =>
      obtain ⟨b, off, _, _, _, _, rfl, _⟩ := ItemsAt.get _ _ 0 0 hr (by simp)
      obtain ⟨news, hn1, hn2, hn3, hn4⟩ := items_cells _ 0 hr
      refine wpList_plain hgd fun K hK => ?_
      obtain ⟨v', w', hrun, hown, hgr⟩ := run_append_arg_grows (P := Try.prog) w 24 o.type 26 i0 _ 4 80 Try.underlying24 hi hz0 hz1 hz2 rfl (by decide) ⟨g, 0, none⟩ 0 0 [] rfl (fun j u hj => by simp at hj) ⟨b, off, none⟩ (x0 :: r).length c news hn1 (fun j u hj => by rw [Addr.add_lit]; have := hn2 j u hj; rwa [Nat.zero_mul, Nat.add_zero] at this) (by simp) (by unfold maxLen; omega) (by omega)
      unfold Oper.wp execOp
      simp only [ho, resolve, invoke, builtin, Sem.run_bind, Sem.run_pure, Result.andThen_ok, List.map_toArray, List.map_cons, List.map_nil, hs, hx, hrun]
      have hl := hown.lt
      have hEw : Ext w w' := (Ext.refl w).grown hgr (Nat.le_refl _) (fun q e => by cases e)
      have hown2 := hown
      obtain ⟨_, hrow2⟩ := hown2
      rcases hrow2 with ⟨_, h0⟩ | ⟨g', cap, cur, rfl, hb, _⟩
      · simp at h0
      · have hlg := hl g' rfl
        have hgX' : ∀ b, b < w.heap.size → ¬ X b → ¬ (X b ∨ b = g') := fun b hb1 hx1 hx2 => by
          rcases hx2 with h | h
          · exact hx1 h
          · omega
        refine hK _ _ (h _ _ (fun b => X b ∨ b = g') (hE.trans hEw) (Chg.of_ext hEw) ⟨fun b hb => .inl hb, fun b hb => hb.imp id (fun e => by omega)⟩ (fun b hb => ?_) (.inr ⟨by simp, ⟨_, ownsRow_base hown hlt0, ?_⟩, g', rfl, .inr rfl⟩))
        · rcases hb with hb | rfl
          · have := hX b hb; have := hEw.lt; omega
          · omega
        · rw [List.nil_append, List.nil_append]
          exact CellsRead.mono (fun b hb hlt => ⟨⟨hb.1.1, hgX' b hlt hb.2⟩, hEw.block hlt⟩) _ _ hn4
  · have hgl := hown.lt g hg
    have hown2 := hown
    obtain ⟨_, hrow2⟩ := hown2
    rcases hrow2 with ⟨rfl, _⟩ | ⟨g0, cap, cur, rfl, hb0, _, hnc, hrest⟩
    · simp [Value.ownBlock] at hg
    simp only [Value.ownBlock, Option.some.injEq] at hg
    subst hg
    cases xs with
    | nil =>
      refine wpList_plain hgd fun K hK => ?_
      have hrun := run_append_none (P := Try.prog) w 24 o.type 26 i0 Try.underlying24 hi (some ⟨g0, 0, none⟩) n cap hnc p c
      unfold Oper.wp execOp
      simp only [ho, resolve, invoke, builtin, Sem.run_bind, Sem.run_pure, Result.andThen_ok, List.map_toArray, List.map_cons, List.map_nil, hs, hx, List.length_nil, hrun]
      exact hK _ _ (h _ _ X hE (Chg.of_ext (Ext.refl _)) kept_m hX (.inr ⟨by simpa using hyl, ⟨cells, by simpa using hown, by simpa using hcr⟩, g0, rfl, hgX⟩))
    | cons x0 r =>
      obtain ⟨b, off, _, _, _, _, rfl, _⟩ := ItemsAt.get _ _ 0 0 hr (by simp)
      obtain ⟨news, hn1, hn2, hn3, hn4⟩ := items_cells _ 0 hr
      refine wpList_append_lies w hgd s x 24 ho w0.heap.size 26 i0 _ 4 80 Try.underlying24 hi hz0 hz1 hz2 rfl (by decide) _ n _ hs hown ⟨b, off, none⟩ (x0 :: r).length c news hx hn1 (fun j u hj => by rw [Addr.add_lit]; have := hn2 j u hj; rwa [Nat.zero_mul, Nat.add_zero] at this) hn3 (by simp) (by unfold maxLen; omega) (by omega) hlt0 w.heap.size rfl ?_
      intro g' cap' w' h1 hgrow hat hlt
      have hsz := hgrow.size
      have hg2 : g' = g0 ∨ g' = w.heap.size := hat.imp (fun e => by simp only [Value.ownBlock, Option.some.injEq] at e; exact e.symm) id
      have hchg : Chg X w w' := ⟨hsz, fun b hb hx => hgrow.block b hb (fun e => by simp only [Value.ownBlock, Option.some.injEq] at e; exact hx (by rw [e]; exact hgX))⟩
      have ap : ∀ b, b < w.heap.size → ¬ X b → ¬ (X b ∨ b = g') := fun b hb1 hx1 hx2 => by
        rcases hx2 with h | h
        · exact hx1 h
        · rcases hg2 with h3 | h3
          · exact hx1 (by rw [h, h3]; exact hgX)
          · omega
      refine h _ w' (fun b => X b ∨ b = g') (hE.grown hgrow hlt0 (fun q e => (hown.lt q e).1)) hchg ⟨fun b hb => .inl hb, fun b hb => ?_⟩ (fun b hb => ?_) (.inr ⟨by simp [hyl], ⟨_, h1, ?_⟩, g', rfl, .inr rfl⟩)
      · rcases hb with hb | rfl
        · exact .inl hb
        · rcases hg2 with rfl | rfl
          · exact .inl hgX
          · exact .inr (Nat.le_refl _)
      · rcases hb with hb | rfl
        · have := hX b hb; omega
        · have := (h1.lt b rfl).1; omega
      · exact CellsRead.append _ _ _ _ (CellsRead.mono (fun b hb hlt => ⟨⟨hb.1, ap b hlt hb.2⟩, hchg.2 b hlt hb.2⟩) _ _ hcr) (CellsRead.mono (fun b hb hlt => ⟨⟨hb.1.1, ap b hlt hb.2⟩, hchg.2 b hlt hb.2⟩) _ _ hn4)
/-- What the chain has made reads as the list. -/
theorem ChainA.items {B : Nat} {R X : Nat → Prop} {w : World} {p : Option Addr} {n c : Nat} {l : List Arr} (h : ChainA B R X w (.slice p n c) n l) (hn : n ≤ 1759218604391) : l.length = n ∧ ItOk n c ∧ ItemsAt (fun b => R b ∨ B ≤ b) w p 0 l := by
  rcases h with ⟨rfl, rfl, g, hv, _⟩ | ⟨h1, ⟨cells, h2, h3⟩, g, hg, _⟩
  · simp only [Value.slice.injEq] at hv
    obtain ⟨rfl, _, rfl⟩ := hv
    exact ⟨rfl, ⟨by simp, by simp, by simp⟩, by unfold ItemsAt; trivial⟩
  · have h2' := h2
    obtain ⟨_, hrow⟩ := h2'
    rcases hrow with ⟨hv, h0⟩ | ⟨g0, cap, cur, hv, hb, _, hnc, hcm, _⟩
    · simp only [Value.slice.injEq] at hv
      obtain ⟨rfl, _, rfl⟩ := hv
      simp [Value.ownBlock] at hg
    · simp only [Value.slice.injEq] at hv
      obtain ⟨rfl, _, rfl⟩ := hv
      refine ⟨h1, ⟨hnc, by unfold maxLen at hcm; omega, hn⟩, ?_⟩
      have := CellsRead.items (B := 0) (X := fun b => ¬ (R b ∨ B ≤ b)) (g := g0) cells l 0 h3 (fun j u hj => ?_) (fun b hb => ⟨Nat.zero_le _, fun h => h (.inl hb.1)⟩) ⟨Nat.zero_le _, fun h => h (.inr hb)⟩
      · exact ItemsAt.mono (fun b hb _ => ⟨Classical.byContradiction fun h => hb.2 h, rfl⟩) _ _ _ this
      · have := h2.cells (g := g0) rfl j u hj
        rw [Nat.zero_mul]
        rw [Addr.add_lit] at this
        exact this
end Go.Proofs.Ytcmnlnamgnbemaa

namespace Go.Proofs.Ytcmnlnamgnbemaa
set_option linter.unusedSimpArgs false
set_option linter.unusedVariables false
open Go.RowKit

theorem chainA_form {B : Nat} {R X : Nat → Prop} {w : World} {v : Value} {n : Nat} {l : List Arr} (h : ChainA B R X w v n l) : ∃ p c, v = .slice p n c := by
  rcases h with ⟨rfl, _, g, rfl, _⟩ | ⟨_, ⟨cells, h2, _⟩, _⟩
  · exact ⟨_, _, rfl⟩
  · rcases h2.2 with ⟨rfl, rfl⟩ | ⟨g, cap, cur, rfl, _⟩
    · exact ⟨_, _, rfl⟩
    · exact ⟨_, _, rfl⟩
set_option maxRecDepth 100000 in
set_option maxHeartbeats 8000000 in
theorem after_any (F G : Nat → Prop) (ka kb : Int) (sa na sb nb : List Int) (ia ib : List Arr) (c0 c1 c2 c3 d0 d1 d2 d3 : Value) (w : World) (hx : ArrAt F w (.mk ka sa na ia) c0 c1 c2 c3) (hy : ArrAt G w (.mk kb sb nb ib) d0 d1 d2 d3)
    (h1a : 0 < sa.length) (h1b : 0 < sb.length) (hda : 0 ≤ sa.getD 0 0 ∧ sa.getD 0 0 ≤ 65536) (hdb : 0 ≤ sb.getD 0 0 ∧ sb.getD 0 0 ≤ 65536) (hnn : na.length + nb.length ≤ 17592186044416) (hii : ia.length + ib.length ≤ 1759218604391) :
    Calls Try.prog 47 #[.agg #[c0, c1, c2, c3], .agg #[d0, d1, d2, d3]] w fun e w' =>
      ∃ e0 e1 e2 e3, e = .returned (.agg #[e0, e1, e2, e3]) ∧ ArrAt (fun b => w.heap.size ≤ b ∨ (F b ∧ b < w.heap.size) ∨ (G b ∧ b < w.heap.size)) w' (afterV (.mk ka sa na ia) (.mk kb sb nb ib)) e0 e1 e2 e3 ∧ Ext w w' := by
  have hx' := hx
  have hy' := hy
  unfold ArrAt at hx' hy'
  obtain ⟨rfl, hka, ⟨q1, m1, rfl, ⟨o1, o1', o1''⟩, i1⟩, ⟨q2, m2, rfl, ⟨o2, o2', o2''⟩, i2⟩, ⟨q3, m3, rfl, ⟨o3, o3', o3''⟩, i3⟩⟩ := hx'
  obtain ⟨rfl, hkb, ⟨r1, n1, rfl, ⟨p1, p1', p1''⟩, j1⟩, ⟨r2, n2, rfl, ⟨p2, p2', p2''⟩, j2⟩, ⟨r3, n3, rfl, ⟨p3, p3', p3''⟩, j3⟩⟩ := hy'
  have HSa := Lib.hid (i1.mono (G := fun b => b < w.heap.size) (fun b _ hlt => ⟨hlt, rfl⟩))
  have HNa := Lib.hid (i2.mono (G := fun b => b < w.heap.size) (fun b _ hlt => ⟨hlt, rfl⟩))
  have HIa := Lib.hid (ItemsAt.mono (G := fun b => F b ∧ b < w.heap.size) (fun b hb hlt => ⟨⟨hb, hlt⟩, rfl⟩) _ _ _ i3)
  have HSb := Lib.hid (j1.mono (G := fun b => b < w.heap.size) (fun b _ hlt => ⟨hlt, rfl⟩))
  have HNb := Lib.hid (j2.mono (G := fun b => b < w.heap.size) (fun b _ hlt => ⟨hlt, rfl⟩))
  have HIb := Lib.hid (ItemsAt.mono (G := fun b => G b ∧ b < w.heap.size) (fun b hb hlt => ⟨⟨hb, hlt⟩, rfl⟩) _ _ _ j3)
  clear hx hy i1 i2 i3 j1 j2 j3
  go_enter Try.func47, Try.ntmps47
  go_wp2_with fail
  have hE0 : Ext w (((w.alloc (.cells #[.int .i64 ka, .slice q1 sa.length m1, .slice q2 na.length m2, .slice q3 ia.length m3] 26)).alloc (.cells #[.int .i64 kb, .slice r1 sb.length n1, .slice r2 nb.length n2, .slice r3 ib.length n3] 26)).alloc (.cells #[.int .i64 0, .slice none 0 0, .slice none 0 0, .slice none 0 0] 26)) := (((Ext.refl _).alloc _).alloc _).alloc _
  have hBa := ((box_new w (.int .i64 ka) (.slice q1 sa.length m1) (.slice q2 na.length m2) (.slice q3 ia.length m3)).ext ((Ext.refl _).alloc (.cells #[.int .i64 kb, .slice r1 sb.length n1, .slice r2 nb.length n2, .slice r3 ib.length n3] 26))).ext ((Ext.refl _).alloc (.cells #[.int .i64 0, .slice none 0 0, .slice none 0 0, .slice none 0 0] 26))
  have hBb := (box_new (w.alloc (.cells #[.int .i64 ka, .slice q1 sa.length m1, .slice q2 na.length m2, .slice q3 ia.length m3] 26)) (.int .i64 kb) (.slice r1 sb.length n1) (.slice r2 nb.length n2) (.slice r3 ib.length n3)).ext ((Ext.refl _).alloc (.cells #[.int .i64 0, .slice none 0 0, .slice none 0 0, .slice none 0 0] 26))
  have hBz := box_new ((w.alloc (.cells #[.int .i64 ka, .slice q1 sa.length m1, .slice q2 na.length m2, .slice q3 ia.length m3] 26)).alloc (.cells #[.int .i64 kb, .slice r1 sb.length n1, .slice r2 nb.length n2, .slice r3 ib.length n3] 26)) (.int .i64 0) (.slice none 0 0) (.slice none 0 0) (.slice none 0 0)
  rw [World.size_alloc] at hBb
  rw [World.size_alloc, World.size_alloc] at hBz
  generalize (((w.alloc (.cells #[.int .i64 ka, .slice q1 sa.length m1, .slice q2 na.length m2, .slice q3 ia.length m3] 26)).alloc (.cells #[.int .i64 kb, .slice r1 sb.length n1, .slice r2 nb.length n2, .slice r3 ib.length n3] 26)).alloc (.cells #[.int .i64 0, .slice none 0 0, .slice none 0 0, .slice none 0 0] 26)) = w1 at hE0 hBa hBb hBz ⊢
  have HBa := Lib.hid hBa
  have HBb := Lib.hid hBb
  have HBz := Lib.hid hBz
  have HE := Lib.hid hE0
  have HWZ : Hid (w.heap.size + 1 + 1 < w1.heap.size) := hBz.lt
  replace HSa := Lib.hid (HSa.out.ext hE0)
  replace HNa := Lib.hid (HNa.out.ext hE0)
  replace HIa := Lib.hid (ItemsAt.ext HIa.out hE0)
  replace HSb := Lib.hid (HSb.out.ext hE0)
  replace HNb := Lib.hid (HNb.out.ext hE0)
  replace HIb := Lib.hid (ItemsAt.ext HIb.out hE0)
  clear hBa hBb hBz hE0
  have HBaK := Lib.hid HBa.out
  have HBbK := Lib.hid HBb.out
  have HBzK := Lib.hid HBz.out
  have HEK := Lib.hid HE.out
  have HNaK := Lib.hid HNa.out
  have HNbK := Lib.hid HNb.out
  have HIaK := Lib.hid HIa.out
  have HIbK := Lib.hid HIb.out
  refine wp_region_x1 [MProp.is (.pointer (some ⟨w.heap.size, 0, none⟩)), MProp.is (.int .i64 ka), MProp.row w1.heap.size 0 [], MProp.is (.pointer (some ⟨w.heap.size, 1, none⟩)), MProp.is (.slice q1 sa.length m1), MProp.own w1.heap.size sa, MProp.ownAgg w1.heap.size ka sa, MProp.box] [0, 1, 2, 3, 4, 5, 6, 7] [] [6, 7, 8, 9, 10, 11, 12, 5] 8 (by kernel_rfl) (by kernel_rfl) (by kernel_rfl) rfl ?_ ?_ ?_
  · refine mem_cons_m ?_ (mem_cons_m ?_ (mem_cons_m ?_ (mem_cons_m ?_ (mem_cons_m ?_ (mem_cons_m ?_ (mem_cons_m ?_ (mem_cons_m ?_ (mem_nil_m))))))))
    · refine ⟨_, 6, rfl, by kernel_rfl, ?_⟩
      intro u w9 X hE hX hd K hK
      clear hd
      simp only [overlay, List.setIfInBounds_toArray, List.set] at hK ⊢
      go_wp2_with fail
      exact hK _ _ X (Ext.refl _) kept_m hX rfl
    · refine ⟨_, 7, rfl, by kernel_rfl, ?_⟩
      intro u w9 X hE hX hd K hK
      have d0 : u 6 = .pointer (some ⟨w.heap.size, 0, none⟩) := hd 0 (by kernel_rfl)
      clear hd
      simp only [overlay, List.setIfInBounds_toArray, List.set, d0] at hK ⊢
      have e9 : Ext w1 w9 := (Ext.refl w1).drew.trans hE
      obtain ⟨s0, s1, s2, s3⟩ := (HBa.out.ext e9).cell
      go_wp2_with fail
      exact hK _ _ X (Ext.refl _) kept_m hX rfl
    · refine ⟨_, 8, rfl, by kernel_rfl, ?_⟩
      intro u w9 X hE hX hd K hK
      clear hd
      simp only [overlay, List.setIfInBounds_toArray, List.set] at hK ⊢
      have hlt' : w1.heap.size ≤ w9.heap.size := hE.lt
      go_wp2_with fail
      exact hK _ _ X ((Ext.refl _).alloc _) kept_m (hX.ext ((Ext.refl _).alloc _)) ⟨_, rfl, rowI_new' w9 [], hlt', fun hx => by have := (hX _ hx).2; omega⟩
    · refine ⟨_, 9, rfl, by kernel_rfl, ?_⟩
      intro u w9 X hE hX hd K hK
      clear hd
      simp only [overlay, List.setIfInBounds_toArray, List.set] at hK ⊢
      go_wp2_with fail
      exact hK _ _ X (Ext.refl _) kept_m hX rfl
    · refine ⟨_, 10, rfl, by kernel_rfl, ?_⟩
      intro u w9 X hE hX hd K hK
      have d3 : u 9 = .pointer (some ⟨w.heap.size, 1, none⟩) := hd 3 (by kernel_rfl)
      clear hd
      simp only [overlay, List.setIfInBounds_toArray, List.set, d3] at hK ⊢
      have e9 : Ext w1 w9 := (Ext.refl w1).drew.trans hE
      obtain ⟨s0, s1, s2, s3⟩ := (HBa.out.ext e9).cell
      go_wp2_with fail
      exact hK _ _ X (Ext.refl _) kept_m hX rfl
    · refine ⟨_, 11, rfl, by kernel_rfl, ?_⟩
      intro u w9 X hE hX hd K hK
      have d2 : ∃ g, u 8 = .slice (some ⟨g, 0, none⟩) 0 0 ∧ RowI w9 g [] ∧ w1.heap.size ≤ g ∧ ¬ X g := hd 2 (by kernel_rfl)
      have d4 : u 10 = .slice q1 sa.length m1 := hd 4 (by kernel_rfl)
      clear hd
      simp only [overlay, List.setIfInBounds_toArray, List.set, d4] at hK ⊢
      obtain ⟨g, hv2, hr2, hb2, hx2⟩ := d2
      simp only [hv2] at hK ⊢
      have hlt' : w1.heap.size ≤ w9.heap.size := hE.lt
      refine wpList_append_zero rfl _ _ rfl _ w1.heap.size X g q1 m1 sa rfl hr2 hb2 hx2 rfl (HSa.out.ext ((Ext.refl w1).drew.trans hE)) (fun b hb => (hX b hb).2) o1'' hlt' ?_
      intro v' w' hO hE'
      obtain ⟨pv, cv, rfl, hcv⟩ := hO.form
      exact hK _ _ X hE' kept_m (hX.ext hE') ⟨pv, cv, rfl, hO⟩
    · refine ⟨_, 12, rfl, by kernel_rfl, ?_⟩
      intro u w9 X hE hX hd K hK
      have d1 : u 7 = .int .i64 ka := hd 1 (by kernel_rfl)
      have d5 : ∃ p c, u 11 = .slice p sa.length c ∧ OwnI w1.heap.size X w9 (.slice p sa.length c) sa.length sa := hd 5 (by kernel_rfl)
      clear hd
      simp only [overlay, List.setIfInBounds_toArray, List.set, d1] at hK ⊢
      obtain ⟨pv, cv, hv4, hO4⟩ := d5
      simp only [hv4] at hK ⊢
      go_wp2_with fail
      exact hK _ _ X (Ext.refl _) kept_m hX ⟨pv, cv, rfl, hO4⟩
    · refine ⟨_, 5, rfl, by kernel_rfl, ?_⟩
      intro u w9 X hE hX hd K hK
      clear hd
      simp only [overlay, List.setIfInBounds_toArray, List.set] at hK ⊢
      go_wp2_with fail
      exact hK _ _ (fun b => X b ∨ b = w9.heap.size) ((Ext.refl _).alloc _) added_m (hX.add hE _) ⟨_, rfl, box_new _ _ _ _ _, .inr rfl⟩
  · exact mem_nil_m
  intro u w9 X hE hX hd
  have d0 : u 6 = .pointer (some ⟨w.heap.size, 0, none⟩) := hd 0 (by decide)
  have d1 : u 7 = .int .i64 ka := hd 1 (by decide)
  have d2 : ∃ g, u 8 = .slice (some ⟨g, 0, none⟩) 0 0 ∧ RowI w9 g [] ∧ w1.heap.size ≤ g ∧ ¬ X g := hd 2 (by decide)
  have d3 : u 9 = .pointer (some ⟨w.heap.size, 1, none⟩) := hd 3 (by decide)
  have d4 : u 10 = .slice q1 sa.length m1 := hd 4 (by decide)
  have d5 : ∃ p c, u 11 = .slice p sa.length c ∧ OwnI w1.heap.size X w9 (.slice p sa.length c) sa.length sa := hd 5 (by decide)
  have d6 : ∃ p c, u 12 = .agg #[.int .i64 ka, .slice p sa.length c, .slice none 0 0, .slice none 0 0] ∧ OwnI w1.heap.size X w9 (.slice p sa.length c) sa.length sa := hd 6 (by decide)
  have d7 : ∃ b, u 5 = .pointer (some ⟨b, 0, none⟩) ∧ Box4 w9 b (.int .i64 0) (.slice none 0 0) (.slice none 0 0) (.slice none 0 0) ∧ X b := hd 7 (by decide)
  clear hd
  simp only [overlay, List.setIfInBounds_toArray, List.set, d0, d1, d3, d4]
  obtain ⟨ps, cs, hv5, hO5⟩ := d6
  obtain ⟨bo, hv6, hbox, hxb⟩ := d7
  have hbo := hX bo hxb
  clear d2 d5
  simp only [hv5, hv6]
  obtain ⟨t0, t1, t2, t3⟩ := hbox.cell
  have f0 := hbox.free 0
  have f1 := hbox.free 1
  have f2 := hbox.free 2
  have f3 := hbox.free 3
  have e9 : Ext w1 w9 := (Ext.refl w1).drew.trans hE
  obtain ⟨gs, rfl, hgs1, hgs2, _, _, _⟩ := hO5.at' (j := 0) h1a
  have hgsb : gs ≠ bo := fun e => hO5.2.2.2.1 gs rfl (by rw [e]; exact hxb)
  obtain ⟨gg1, gg2, gg3⟩ := hbox.put4 e9 (show w1.heap.size ≤ bo from hbo.1) (.int .i64 ka) (.slice (some ⟨gs, 0, none⟩) sa.length cs) (.slice none 0 0) (.slice none 0 0)
  have hO6 := hO5.same (Y := fun b => b = bo) (w' := ((((w9.setCell ⟨bo, 0, none⟩ (.int .i64 ka)).setCell ⟨bo, 1, none⟩ (.slice (some ⟨gs, 0, none⟩) sa.length cs)).setCell ⟨bo, 2, none⟩ (.slice none 0 0)).setCell ⟨bo, 3, none⟩ (.slice none 0 0))) (fun g hg _ hx => ⟨gg3 g (fun e => hx (by rw [e]; exact hxb)), fun e => hx (by rw [e]; exact hxb)⟩)
  have HX := Lib.hid (And.intro gg1 (And.intro gg2 hO6))
  clear gg1 gg2 gg3 hO6 hO5 hbox hX hE hxb
  generalize u 8 = j8
  generalize u 11 = j11
  clear d0 d1 d3 d4 hv5 hv6 u
  have hbo1 : w1.heap.size ≤ bo := hbo.1
  clear hbo
  go_wp2_with fail
  refine OnlyN.mk ?_
  obtain ⟨gg1, gg2, hO6⟩ := HX.out
  clear HX t0 t1 t2 t3 f0 f1 f2 f3
  generalize ((((w9.setCell ⟨bo, 0, none⟩ (.int .i64 ka)).setCell ⟨bo, 1, none⟩ (.slice (some ⟨gs, 0, none⟩) sa.length cs)).setCell ⟨bo, 2, none⟩ (.slice none 0 0)).setCell ⟨bo, 3, none⟩ (.slice none 0 0)) = w2 at *
  replace HBa := Lib.hid (HBa.out.ext gg1)
  replace HBb := Lib.hid (HBb.out.ext gg1)
  replace HBz := Lib.hid (HBz.out.ext gg1)
  replace HE := Lib.hid (HE.out.trans gg1)
  replace HSa := Lib.hid (HSa.out.ext gg1)
  replace HSb := Lib.hid (HSb.out.ext gg1)
  replace HNa := Lib.hid (HNa.out.ext gg1)
  replace HNb := Lib.hid (HNb.out.ext gg1)
  replace HIa := Lib.hid (ItemsAt.ext HIa.out gg1)
  replace HIb := Lib.hid (ItemsAt.ext HIb.out gg1)
  have HBo := Lib.hid gg2
  have HO := Lib.hid hO6
  have HE1 := Lib.hid gg1
  clear gg1 gg2 hO6 e9
  go_wp2_with fail
  obtain ⟨s0, s1, s2, s3⟩ := HBa.out.cell
  obtain ⟨t0, t1, t2, t3⟩ := HBb.out.cell
  obtain ⟨x0, x1, x2, x3⟩ := HBo.out.cell
  obtain ⟨ba, oa, rfl, ca, _, _⟩ := HSa.out.get h1a
  obtain ⟨bb, ob, rfl, cb, _, _⟩ := HSb.out.get h1b
  rw [Nat.add_zero] at ca cb
  obtain ⟨gs2, hgs3, _, _, cg, fg, hset⟩ := HO.out.at' (j := 0) h1a
  simp only [Option.some.injEq, Addr.mk.injEq, and_true] at hgs3
  subst hgs3
  have hO7 := (hset (sa.getD 0 0 + sb.getD 0 0) (by omega)).ext ((Ext.refl _).drew)
  have hE7 : Ext w1 (w2.setCell ⟨gs, 0, none⟩ (.int .i64 (sa.getD 0 0 + sb.getD 0 0))).drew := (HE1.out.setCell (p := ⟨gs, 0, none⟩) hgs1 _).drew
  have hB7 : Box4 (w2.setCell ⟨gs, 0, none⟩ (.int .i64 (sa.getD 0 0 + sb.getD 0 0))).drew bo (.int .i64 ka) (.slice (some ⟨gs, 0, none⟩) sa.length cs) (.slice none 0 0) (.slice none 0 0) := (HBo.out.far (a := ⟨gs, 0, none⟩) (by simpa using fun e => hgsb e.symm) _).ext ((Ext.refl _).drew)
  have hsum : IntKind.i64.wrap (sa.getD 0 0 + sb.getD 0 0) = sa.getD 0 0 + sb.getD 0 0 := IntWalk.i64_in _ (by omega)
  have HX7 := Lib.hid (And.intro hO7 (And.intro hE7 hB7))
  have HDS : Hid (sa.set 0 (sa.getD 0 0 + sb.getD 0 0) = sa.set 0 (sa.getD 0 0 + sb.getD 0 0)) := rfl
  clear hset hO7 hE7 hB7
  generalize hso : sa.set 0 (sa.getD 0 0 + sb.getD 0 0) = so at *
  have HSO := Lib.hid hso
  have HV : Hid (afterV (.mk ka sa na ia) (.mk kb sb nb ib) = .mk ka so (na ++ nb) (ia ++ ib)) := by
    show _ = _
    rw [← hso]
    rfl
  clear hso HDS
  have hsl : (0 : Int) < sa.length := by omega
  have hsl2 : (0 : Int) < sb.length := by omega
  generalize sa.getD 0 0 = xa at *
  generalize sb.getD 0 0 = xb at *
  go_still_tail 12, (by kernel_rfl)
  change wpList _ _ _ _ _ w2.drew
  go_wp2_with fail
  obtain ⟨hO7, hE7, hB7⟩ := HX7.out
  clear HX7 s0 s1 s2 s3 t0 t1 t2 t3 x0 x1 x2 x3 ca cb cg fg hsum
  generalize (w2.setCell ⟨gs, 0, none⟩ (.int .i64 (xa + xb))).drew = w3 at *
  replace HBa := Lib.hid (HBaK.out.ext hE7)
  replace HBb := Lib.hid (HBbK.out.ext hE7)
  replace HBz := Lib.hid (HBzK.out.ext hE7)
  replace HE := Lib.hid (HEK.out.trans hE7)
  replace HNa := Lib.hid (HNaK.out.ext hE7)
  replace HNb := Lib.hid (HNbK.out.ext hE7)
  replace HIa := Lib.hid (ItemsAt.ext HIaK.out hE7)
  replace HIb := Lib.hid (ItemsAt.ext HIbK.out hE7)
  replace HE1 := Lib.hid hE7
  replace HBo := Lib.hid hB7
  have HOK := Lib.hid hO7
  clear hO7 hE7 hB7 HO HSa HSb
  go_wp2_with fail
  refine wp_region_z2 [MProp.row w3.heap.size 0 [], MProp.is (.pointer (some ⟨w.heap.size, 2, none⟩)), MProp.rdi (na), MProp.chain w3.heap.size (na), MProp.is (.pointer (some ⟨w.heap.size + 1, 2, none⟩)), MProp.rdi (nb), MProp.chain w3.heap.size (na ++ nb)] [0, 1, 2, 4, 5] [3, 6] [25, 26, 27, 29, 30, 28, 31] 7 8 (by kernel_rfl) (by kernel_rfl) (by kernel_rfl) (by kernel_rfl) rfl rfl ?_ ?_ ?_ ?_
  · exact mem_cons_m (zst_row _ _ _) (mem_cons_m (zst_is _) (mem_cons_m (zst_rdi _) (mem_cons_m (zst_is _) (mem_cons_m (zst_rdi _) (mem_nil_m)))))
  · refine mem_cons_m ?_ (mem_cons_m ?_ (mem_cons_m ?_ (mem_cons_m ?_ (mem_cons_m ?_ (mem_nil_m)))))
    · refine ⟨_, 25, rfl, by kernel_rfl, ?_⟩
      intro u w9 X hE hX hd K hK
      clear hd
      simp only [overlay, List.setIfInBounds_toArray, List.set] at hK ⊢
      have hlt' : w3.heap.size ≤ w9.heap.size := hE.lt
      go_wp2_with fail
      exact hK _ _ X ((Ext.refl _).alloc _) kept_m (hX.ext ((Ext.refl _).alloc _)) ⟨_, rfl, rowI_new' w9 [], hlt', fun hx => by have := (hX _ hx).2; omega⟩
    · refine ⟨_, 26, rfl, by kernel_rfl, ?_⟩
      intro u w9 X hE hX hd K hK
      clear hd
      simp only [overlay, List.setIfInBounds_toArray, List.set] at hK ⊢
      go_wp2_with fail
      exact hK _ _ X (Ext.refl _) kept_m hX rfl
    · refine ⟨_, 27, rfl, by kernel_rfl, ?_⟩
      intro u w9 X hE hX hd K hK
      have d1 : u 26 = .pointer (some ⟨w.heap.size, 2, none⟩) := hd 1 (by kernel_rfl)
      clear hd
      simp only [overlay, List.setIfInBounds_toArray, List.set, d1] at hK ⊢
      have e9 : Ext w3 w9 := (Ext.refl w3).drew.trans hE
      obtain ⟨s0, s1, s2, s3⟩ := (HBa.out.ext e9).cell
      go_wp2_with fail
      exact hK _ _ X (Ext.refl _) kept_m hX (RdIX.old HNa.out ⟨o2, o2', o2''⟩ e9 hX.lo)
    · refine ⟨_, 29, rfl, by kernel_rfl, ?_⟩
      intro u w9 X hE hX hd K hK
      clear hd
      simp only [overlay, List.setIfInBounds_toArray, List.set] at hK ⊢
      go_wp2_with fail
      exact hK _ _ X (Ext.refl _) kept_m hX rfl
    · refine ⟨_, 30, rfl, by kernel_rfl, ?_⟩
      intro u w9 X hE hX hd K hK
      have d4 : u 29 = .pointer (some ⟨w.heap.size + 1, 2, none⟩) := hd 4 (by kernel_rfl)
      clear hd
      simp only [overlay, List.setIfInBounds_toArray, List.set, d4] at hK ⊢
      have e9 : Ext w3 w9 := (Ext.refl w3).drew.trans hE
      obtain ⟨s0, s1, s2, s3⟩ := (HBb.out.ext e9).cell
      go_wp2_with fail
      exact hK _ _ X (Ext.refl _) kept_m hX (RdIX.old HNb.out ⟨p2, p2', p2''⟩ e9 hX.lo)
  · refine mem_cons_m ?_ (mem_cons_m ?_ (mem_nil_m))
    · refine ⟨_, 28, rfl, by kernel_rfl, ?_⟩
      intro u w9 X hE hX hd K hK
      have d0 : ∃ g, u 25 = .slice (some ⟨g, 0, none⟩) 0 0 ∧ RowI w9 g [] ∧ w3.heap.size ≤ g ∧ ¬ X g := hd 0 (by kernel_rfl)
      have d2 : RdIX X w9 (na) (u 27) := hd 2 (by kernel_rfl)
      clear hd
      simp only [overlay, List.setIfInBounds_toArray, List.set] at hK ⊢
      obtain ⟨g, hv0, hr0, hb0, hx0⟩ := d0
      obtain ⟨p3, c3, hv3, hk3, hi3⟩ := d2
      simp only [hv0, hv3] at hK ⊢
      refine wpList_chain rfl _ _ rfl w3.drew X _ 0 [] p3 c3 (na) rfl (.inl ⟨rfl, rfl, g, rfl, hr0, hb0, hx0⟩) rfl hi3 hE hX (by first | omega | (simp; omega)) ?_
      intro v' w' X' f0 f1 f2 f3 f4
      rw [Nat.zero_add, List.nil_append] at f4
      obtain ⟨pv, cv, rfl⟩ := f4.own.1.form.imp fun _ h => h.imp fun _ h => h.1
      exact hK _ _ X' f0 f1 f2 f3 ⟨pv, cv, rfl, f4⟩
    · refine ⟨_, 31, rfl, by kernel_rfl, ?_⟩
      intro u w9 X hE hX hd K hK
      have d3 : ∃ p c, u 28 = .slice p (na).length c ∧ ChainRow w3.heap.size X w9 (.slice p (na).length c) (na).length (na) := hd 3 (by kernel_rfl)
      have d5 : RdIX X w9 (nb) (u 30) := hd 5 (by kernel_rfl)
      clear hd
      simp only [overlay, List.setIfInBounds_toArray, List.set] at hK ⊢
      obtain ⟨p0, c0, hv0, hc0⟩ := d3
      obtain ⟨p3, c3, hv3, hk3, hi3⟩ := d5
      simp only [hv0, hv3] at hK ⊢
      refine wpList_chain rfl _ _ rfl w3.drew X _ na.length (na) p3 c3 (nb) rfl hc0 rfl hi3 hE hX (by first | omega | (simp; omega)) ?_
      intro v' w' X' f0 f1 f2 f3 f4
      rw [← List.length_append] at f4
      obtain ⟨pv, cv, rfl⟩ := f4.own.1.form.imp fun _ h => h.imp fun _ h => h.1
      exact hK _ _ X' f0 f1 f2 f3 ⟨pv, cv, rfl, f4⟩
  intro u w9 X hE hX hd hdc
  have d0 : ∃ g, u 25 = .slice (some ⟨g, 0, none⟩) 0 0 ∧ RowI w9 g [] ∧ w3.heap.size ≤ g ∧ ¬ X g := hd 0 (by decide)
  have d1 : u 26 = .pointer (some ⟨w.heap.size, 2, none⟩) := hd 1 (by decide)
  have d2 : RdIX X w9 (na) (u 27) := hd 2 (by decide)
  have d4 : u 29 = .pointer (some ⟨w.heap.size + 1, 2, none⟩) := hd 4 (by decide)
  have d5 : RdIX X w9 (nb) (u 30) := hd 5 (by decide)
  have d6 : ∃ p c, u 31 = .slice p (na ++ nb).length c ∧ ChainRow w3.heap.size X w9 (.slice p (na ++ nb).length c) (na ++ nb).length (na ++ nb) := hdc 1 rfl
  clear hd hdc
  simp only [overlay, List.setIfInBounds_toArray, List.set, d1, d4]
  have e9 : Ext w3 w9 := (Ext.refl w3).drew.trans hE
  generalize hnab : na ++ nb = nab at *
  clear hnab
  obtain ⟨pn, cn, hvn, hcn⟩ := d6
  simp only [hvn]
  have hbox := HBo.out.ext e9
  obtain ⟨t0, t1, t2, t3⟩ := hbox.cell
  have f2 := hbox.free 2
  obtain ⟨p', c', hpt, hkn, hin⟩ := hcn.own.1.ints
  simp only [Value.slice.injEq] at hpt
  obtain ⟨rfl, _, rfl⟩ := hpt
  have hl3 := HBo.out.lt
  have hIn : IntsAt (fun b => w1.heap.size ≤ b ∧ b ≠ bo) (w9.setCell ⟨bo, 2, none⟩ (.slice pn nab.length cn)) pn nab := hin.mono fun b hb hlt => ⟨⟨by have := hb.1; have := HE1.out.lt; omega, by have := hb.1; omega⟩, Below.heap_setCell _ _ _ _ (by have := hb.1; simp; omega)⟩
  have hE8 : Ext w1 (w9.setCell ⟨bo, 2, none⟩ (.slice pn nab.length cn)) := (HE1.out.trans e9).setCell (p := ⟨bo, 2, none⟩) hbo1 _
  have hB8 := hbox.set2 (.slice pn nab.length cn)
  have hO8 := (HOK.out.ext e9).same (Y := fun b => b = bo) (w' := w9.setCell ⟨bo, 2, none⟩ (.slice pn nab.length cn)) (fun g hg _ hx => ⟨Below.heap_setCell _ _ _ _ (by simpa using hx), hx⟩)
  have HX8 := Lib.hid (And.intro hIn (And.intro hE8 (And.intro hB8 hO8)))
  have HKN := Lib.hid hkn
  clear hIn hE8 hB8 hO8 hin hkn hcn hbox
  generalize u 25 = j25
  generalize u 27 = j27
  generalize u 28 = j28
  generalize u 30 = j30
  clear d0 d1 d2 d4 d5 hX hE hvn u
  go_wp2_with fail
  refine OnlyN.mk ?_
  obtain ⟨hIn, hE8, hB8, hO8⟩ := HX8.out
  clear HX8 t0 t1 t2 t3 f2 e9
  generalize w9.setCell ⟨bo, 2, none⟩ (.slice pn nab.length cn) = w4 at *
  replace HBa := Lib.hid (HBaK.out.ext hE8)
  replace HBb := Lib.hid (HBbK.out.ext hE8)
  replace HBz := Lib.hid (HBzK.out.ext hE8)
  replace HE := Lib.hid (HEK.out.trans hE8)
  replace HIa := Lib.hid (ItemsAt.ext HIaK.out hE8)
  replace HIb := Lib.hid (ItemsAt.ext HIbK.out hE8)
  replace HE1 := Lib.hid hE8
  replace HBo := Lib.hid hB8
  replace HOK := Lib.hid hO8
  have HIN := Lib.hid hIn
  clear hIn hE8 hB8 hO8 HNa HNb
  go_wp2_with fail
  refine wp_region_z2 [MProp.rowA0 w4.heap.size, MProp.is (.pointer (some ⟨w.heap.size, 3, none⟩)), MProp.rda (fun b => (F b ∧ b < w.heap.size) ∨ (G b ∧ b < w.heap.size)) (ia), MProp.chainA w4.heap.size (fun b => (F b ∧ b < w.heap.size) ∨ (G b ∧ b < w.heap.size)) (ia), MProp.is (.pointer (some ⟨w.heap.size + 1, 3, none⟩)), MProp.rda (fun b => (F b ∧ b < w.heap.size) ∨ (G b ∧ b < w.heap.size)) (ib), MProp.chainA w4.heap.size (fun b => (F b ∧ b < w.heap.size) ∨ (G b ∧ b < w.heap.size)) (ia ++ ib)] [0, 1, 2, 4, 5] [3, 6] [33, 34, 35, 37, 38, 36, 39] 7 8 (by kernel_rfl) (by kernel_rfl) (by kernel_rfl) (by kernel_rfl) rfl rfl ?_ ?_ ?_ ?_
  · exact mem_cons_m (zst_rowA0 _) (mem_cons_m (zst_is _) (mem_cons_m (zst_rda _ _) (mem_cons_m (zst_is _) (mem_cons_m (zst_rda _ _) (mem_nil_m)))))
  · refine mem_cons_m ?_ (mem_cons_m ?_ (mem_cons_m ?_ (mem_cons_m ?_ (mem_cons_m ?_ (mem_nil_m)))))
    · refine ⟨_, 33, rfl, by kernel_rfl, ?_⟩
      intro u w9 X hE hX hd K hK
      clear hd
      simp only [overlay, List.setIfInBounds_toArray, List.set] at hK ⊢
      have hlt' : w4.heap.size ≤ w9.heap.size := hE.lt
      go_wp2_with fail
      exact hK _ _ X ((Ext.refl _).alloc _) kept_m (hX.ext ((Ext.refl _).alloc _)) ⟨_, rfl, heap_alloc_new w9 _, hlt', fun hx => by have := (hX _ hx).2; omega⟩
    · refine ⟨_, 34, rfl, by kernel_rfl, ?_⟩
      intro u w9 X hE hX hd K hK
      clear hd
      simp only [overlay, List.setIfInBounds_toArray, List.set] at hK ⊢
      go_wp2_with fail
      exact hK _ _ X (Ext.refl _) kept_m hX rfl
    · refine ⟨_, 35, rfl, by kernel_rfl, ?_⟩
      intro u w9 X hE hX hd K hK
      have d1 : u 34 = .pointer (some ⟨w.heap.size, 3, none⟩) := hd 1 (by kernel_rfl)
      clear hd
      simp only [overlay, List.setIfInBounds_toArray, List.set, d1] at hK ⊢
      have e9 : Ext w4 w9 := (Ext.refl w4).drew.trans hE
      obtain ⟨s0, s1, s2, s3⟩ := (HBa.out.ext e9).cell
      go_wp2_with fail
      exact hK _ _ X (Ext.refl _) kept_m hX ⟨_, _, rfl, ⟨o3, o3', o3''⟩, ItemsAt.mono (fun b hb hlt => ⟨⟨⟨.inl hb, Nat.lt_of_lt_of_le hlt e9.lt⟩, fun hx => by have := (hX b hx).1; have h5 : b < w4.heap.size := hlt; have h6 : w4.heap.size ≤ b := this; omega⟩, e9.block hlt⟩) _ _ _ HIa.out⟩
    · refine ⟨_, 37, rfl, by kernel_rfl, ?_⟩
      intro u w9 X hE hX hd K hK
      clear hd
      simp only [overlay, List.setIfInBounds_toArray, List.set] at hK ⊢
      go_wp2_with fail
      exact hK _ _ X (Ext.refl _) kept_m hX rfl
    · refine ⟨_, 38, rfl, by kernel_rfl, ?_⟩
      intro u w9 X hE hX hd K hK
      have d4 : u 37 = .pointer (some ⟨w.heap.size + 1, 3, none⟩) := hd 4 (by kernel_rfl)
      clear hd
      simp only [overlay, List.setIfInBounds_toArray, List.set, d4] at hK ⊢
      have e9 : Ext w4 w9 := (Ext.refl w4).drew.trans hE
      obtain ⟨s0, s1, s2, s3⟩ := (HBb.out.ext e9).cell
      go_wp2_with fail
      exact hK _ _ X (Ext.refl _) kept_m hX ⟨_, _, rfl, ⟨p3, p3', p3''⟩, ItemsAt.mono (fun b hb hlt => ⟨⟨⟨.inr hb, Nat.lt_of_lt_of_le hlt e9.lt⟩, fun hx => by have := (hX b hx).1; have h5 : b < w4.heap.size := hlt; have h6 : w4.heap.size ≤ b := this; omega⟩, e9.block hlt⟩) _ _ _ HIb.out⟩
  · refine mem_cons_m ?_ (mem_cons_m ?_ (mem_nil_m))
    · refine ⟨_, 36, rfl, by kernel_rfl, ?_⟩
      intro u w9 X hE hX hd K hK
      have d0 : ∃ g, u 33 = .slice (some ⟨g, 0, none⟩) 0 0 ∧ w9.heap[g]? = some (.cells #[] 26 (0, 0)) ∧ w4.heap.size ≤ g ∧ ¬ X g := hd 0 (by kernel_rfl)
      have d2 : RdAX (fun b => (F b ∧ b < w.heap.size) ∨ (G b ∧ b < w.heap.size)) X w9 (ia) (u 35) := hd 2 (by kernel_rfl)
      clear hd
      simp only [overlay, List.setIfInBounds_toArray, List.set] at hK ⊢
      obtain ⟨g, hv0, hr0, hb0, hx0⟩ := d0
      obtain ⟨p3, c3, hv3, hk3, hi3⟩ := d2
      simp only [hv0, hv3] at hK ⊢
      refine wpList_chainA rfl _ _ rfl w4.drew (fun b => (F b ∧ b < w.heap.size) ∨ (G b ∧ b < w.heap.size)) X _ 0 [] p3 c3 (ia) rfl (.inl ⟨rfl, rfl, g, rfl, hr0, hb0, hx0⟩) rfl hi3 hE hX (by first | omega | (simp; omega)) ?_
      intro v' w' X' f0 f1 f2 f3 f4
      rw [Nat.zero_add, List.nil_append] at f4
      obtain ⟨pv, cv, rfl⟩ := chainA_form f4
      exact hK _ _ X' f0 f1 f2 f3 ⟨pv, cv, rfl, f4⟩
    · refine ⟨_, 39, rfl, by kernel_rfl, ?_⟩
      intro u w9 X hE hX hd K hK
      have d3 : ∃ p c, u 36 = .slice p (ia).length c ∧ ChainA w4.heap.size (fun b => (F b ∧ b < w.heap.size) ∨ (G b ∧ b < w.heap.size)) X w9 (.slice p (ia).length c) (ia).length (ia) := hd 3 (by kernel_rfl)
      have d5 : RdAX (fun b => (F b ∧ b < w.heap.size) ∨ (G b ∧ b < w.heap.size)) X w9 (ib) (u 38) := hd 5 (by kernel_rfl)
      clear hd
      simp only [overlay, List.setIfInBounds_toArray, List.set] at hK ⊢
      obtain ⟨p0, c0, hv0, hc0⟩ := d3
      obtain ⟨p3, c3, hv3, hk3, hi3⟩ := d5
      simp only [hv0, hv3] at hK ⊢
      refine wpList_chainA rfl _ _ rfl w4.drew (fun b => (F b ∧ b < w.heap.size) ∨ (G b ∧ b < w.heap.size)) X _ ia.length (ia) p3 c3 (ib) rfl hc0 rfl hi3 hE hX (by first | omega | (simp; omega)) ?_
      intro v' w' X' f0 f1 f2 f3 f4
      rw [← List.length_append] at f4
      obtain ⟨pv, cv, rfl⟩ := chainA_form f4
      exact hK _ _ X' f0 f1 f2 f3 ⟨pv, cv, rfl, f4⟩
  intro u w9 X hE hX hd hdc
  have d0 : ∃ g, u 33 = .slice (some ⟨g, 0, none⟩) 0 0 ∧ w9.heap[g]? = some (.cells #[] 26 (0, 0)) ∧ w4.heap.size ≤ g ∧ ¬ X g := hd 0 (by decide)
  have d1 : u 34 = .pointer (some ⟨w.heap.size, 3, none⟩) := hd 1 (by decide)
  have d2 : RdAX (fun b => (F b ∧ b < w.heap.size) ∨ (G b ∧ b < w.heap.size)) X w9 (ia) (u 35) := hd 2 (by decide)
  have d4 : u 37 = .pointer (some ⟨w.heap.size + 1, 3, none⟩) := hd 4 (by decide)
  have d5 : RdAX (fun b => (F b ∧ b < w.heap.size) ∨ (G b ∧ b < w.heap.size)) X w9 (ib) (u 38) := hd 5 (by decide)
  have d6 : ∃ p c, u 39 = .slice p (ia ++ ib).length c ∧ ChainA w4.heap.size (fun b => (F b ∧ b < w.heap.size) ∨ (G b ∧ b < w.heap.size)) X w9 (.slice p (ia ++ ib).length c) (ia ++ ib).length (ia ++ ib) := hdc 1 rfl
  clear hd hdc
  simp only [overlay, List.setIfInBounds_toArray, List.set, d1, d4]
  have e9 : Ext w4 w9 := (Ext.refl w4).drew.trans hE
  have hii3 : (ia ++ ib).length ≤ 1759218604391 := by rw [List.length_append]; exact hii
  generalize hiab : ia ++ ib = iab at *
  clear hiab
  obtain ⟨pi, ci, hvn, hcn⟩ := d6
  simp only [hvn]
  have hbox := HBo.out.ext e9
  obtain ⟨t0, t1, t2, t3⟩ := hbox.cell
  have f3 := hbox.free 3
  have hl3 := HBo.out.lt
  obtain ⟨_, hki, hii2⟩ := hcn.items hii3
  have hE1l := HE1.out.lt
  have hIi : ItemsAt (fun b => (F b ∧ b < w.heap.size) ∨ (G b ∧ b < w.heap.size) ∨ w4.heap.size ≤ b) (w9.setCell ⟨bo, 3, none⟩ (.slice pi iab.length ci)) pi 0 iab := ItemsAt.mono (fun b hb hlt => ⟨by rcases hb with (h | h) | h; exact .inl h; exact .inr (.inl h); exact .inr (.inr h), Below.heap_setCell _ _ _ _ (by have := HWZ.out; rcases hb with (h | h) | h; (have := h.2; simp; omega); (have := h.2; simp; omega); (have h5 : w4.heap.size ≤ b := h; simp; omega))⟩) _ _ _ hii2
  have hE8 : Ext w1 (w9.setCell ⟨bo, 3, none⟩ (.slice pi iab.length ci)) := (HE1.out.trans e9).setCell (p := ⟨bo, 3, none⟩) hbo1 _
  have hB8 := hbox.set3 (.slice pi iab.length ci)
  have hO8 := (HOK.out.ext e9).same (Y := fun b => b = bo) (w' := w9.setCell ⟨bo, 3, none⟩ (.slice pi iab.length ci)) (fun g hg _ hx => ⟨Below.heap_setCell _ _ _ _ (by simpa using hx), hx⟩)
  have hN8 := (HIN.out.ext e9).mono (G := fun b => w1.heap.size ≤ b ∧ b ≠ bo) (w' := w9.setCell ⟨bo, 3, none⟩ (.slice pi iab.length ci)) (fun b hb _ => ⟨hb, Below.heap_setCell _ _ _ _ (by simpa using hb.2)⟩)
  have HX8 := Lib.hid (And.intro hIi (And.intro hE8 (And.intro hB8 (And.intro hO8 hN8))))
  have HKI := Lib.hid hki
  clear hIi hE8 hB8 hO8 hN8 hii2 hki hcn hbox
  generalize u 33 = j33
  generalize u 35 = j35
  generalize u 36 = j36
  generalize u 38 = j38
  clear d0 d1 d2 d4 d5 hX hE hvn u
  go_wp2_with fail
  refine OnlyN.mk ?_
  obtain ⟨hIi, hE8, hB8, hO8, hN8⟩ := HX8.out
  clear HX8 t0 t1 t2 t3 f3 e9
  generalize w9.setCell ⟨bo, 3, none⟩ (.slice pi iab.length ci) = w5 at *
  have hbz := HBzK.out.ext hE8
  have hEz := HEK.out.trans hE8
  obtain ⟨t0, t1, t2, t3⟩ := hB8.cell
  have hlb := hB8.lt
  obtain ⟨x0, x1, x2, x3⟩ := hbz.cell
  have y0 := hbz.free 0
  have y1 := hbz.free 1
  have y2 := hbz.free 2
  have y3 := hbz.free 3
  have hlz := hbz.lt
  have hwz := HWZ.out
  obtain ⟨ps', cs', hps, hks, hIs⟩ := hO8.ints
  have hsol : so.length = sa.length := by rw [← HSO.out, List.length_set]
  rw [hsol] at hps hks
  simp only [Value.slice.injEq] at hps
  obtain ⟨rfl, _, rfl⟩ := hps
  have hA : ArrAt (fun b => w1.heap.size ≤ b ∨ (F b ∧ b < w.heap.size) ∨ (G b ∧ b < w.heap.size)) w5 (.mk ka so nab iab) (.int .i64 ka) (.slice (some ⟨gs, 0, none⟩) sa.length cs) (.slice pn nab.length cn) (.slice pi iab.length ci) := by
    unfold ArrAt
    refine ⟨rfl, hka, ⟨_, _, by rw [hsol], by rw [hsol]; exact hks, hIs.mono fun b hb _ => ⟨.inl hb.1, rfl⟩⟩, ⟨_, _, rfl, HKN.out, hN8.mono fun b hb _ => ⟨.inl hb.1, rfl⟩⟩, ⟨_, _, rfl, HKI.out, ItemsAt.mono (fun b hb _ => ⟨?_, rfl⟩) _ _ _ hIi⟩⟩
    rcases hb with h | h | h
    · exact .inr (.inl h)
    · exact .inr (.inr h)
    · exact .inl (by omega)
  have HA := Lib.hid hA
  clear hA hIs hN8 hO8 hIi hks hsol
  go_wp2_with fail
  obtain ⟨gg1, gg2, gg3⟩ := hbz.put4 hEz (by omega) (.int .i64 ka) (.slice (some ⟨gs, 0, none⟩) sa.length cs) (.slice pn nab.length cn) (.slice pi iab.length ci)
  revert gg1 gg2 gg3
  generalize ((((w5.setCell ⟨w.heap.size + 1 + 1, 0, none⟩ (.int .i64 ka)).setCell ⟨w.heap.size + 1 + 1, 1, none⟩ (.slice (some ⟨gs, 0, none⟩) sa.length cs)).setCell ⟨w.heap.size + 1 + 1, 2, none⟩ (.slice pn nab.length cn)).setCell ⟨w.heap.size + 1 + 1, 3, none⟩ (.slice pi iab.length ci)) = w9
  intro gg1 gg2 gg3
  obtain ⟨z0, z1, z2, z3⟩ := gg2.cell
  have hA9 := ArrAt.mono (G := fun b => w.heap.size ≤ b ∨ (F b ∧ b < w.heap.size) ∨ (G b ∧ b < w.heap.size)) (w' := w9) (fun b hb _ => ⟨by rcases hb with h | h | h; exact .inl (by omega); exact .inr (.inl h); exact .inr (.inr h), gg3 b (by rcases hb with h | h | h; omega; (have := h.2; omega); (have := h.2; omega))⟩) _ _ _ _ _ HA.out
  refine bodyPost_ret (v := .agg #[(.int .i64 ka), (.slice (some ⟨gs, 0, none⟩) sa.length cs), (.slice pn nab.length cn), (.slice pi iab.length ci)]) ?_ rfl ⟨_, _, _, _, rfl, by rw [HV.out]; exact hA9, gg1⟩
  simp [results, Try.results47, go_sem, z0, z1, z2, z3]
end Go.Proofs.Ytcmnlnamgnbemaa

namespace Go.Proofs.Ytcmnlnamgnbemaa
set_option linter.unusedSimpArgs false
set_option linter.unusedVariables false
open Go.RowKit

theorem after_at {X : Nat → Prop} {w : World} {ka kb : Int} {sa na sb nb : List Int} {ia ib : List Arr} {t : Arr} {v1 v2 : Value} (ex : afterV (.mk ka sa na ia) (.mk kb sb nb ib) = t) (h1 : RdX X w (.mk ka sa na ia) v1) (h2 : RdX X w (.mk kb sb nb ib) v2) (hX : ∀ b, X b → b < w.heap.size)
    (hla : 0 < sa.length) (hlb : 0 < sb.length) (hda : 0 ≤ sa.getD 0 0 ∧ sa.getD 0 0 ≤ 65536) (hdb : 0 ≤ sb.getD 0 0 ∧ sb.getD 0 0 ≤ 65536) (hnn : na.length + nb.length ≤ 17592186044416) (hii : ia.length + ib.length ≤ 1759218604391) :
    Calls Try.prog 47 #[v1, v2] w fun e w' => ∃ x, e = .returned x ∧ RdX X w' t x ∧ Ext w w' := by
  subst ex
  obtain ⟨c0, c1, c2, c3, rfl, hA⟩ := h1
  obtain ⟨d0, d1, d2, d3, rfl, hB⟩ := h2
  refine (after_any _ _ ka kb sa na sb nb ia ib _ _ _ _ _ _ _ _ w hA hB hla hlb hda hdb hnn hii).mono ?_
  rintro e w' ⟨e0, e1, e2, e3, rfl, hR, hE⟩
  exact ⟨_, rfl, RdX.new hR (fun b hb _ => by rcases hb with h | h | h; exact .inl h; exact .inr h.1.2; exact .inr h.1.2) hX, hE⟩

set_option maxRecDepth 100000 in
set_option maxHeartbeats 8000000 in
theorem parts_any (G : Nat → Prop) (y : Arr) (d0 d1 d2 d3 : Value) (nn : Int) (w : World) (hy : ArrAt G w y d0 d1 d2 d3) (hn64 : -9223372036854775808 ≤ nn ∧ nn ≤ 9223372036854775807) :
    Calls Try.prog 12 #[.int .i64 nn, .agg #[d0, d1, d2, d3]] w fun e w' => e = .returned (.bool true) ∧ Ext w w' := by
  obtain ⟨ky, sy, ny, iy⟩ := y
  have hy' := hy
  unfold ArrAt at hy'
  obtain ⟨rfl, hky, ⟨r1, n1, rfl, ⟨p1, p1', p1''⟩, j1⟩, ⟨r2, n2, rfl, ⟨p2, p2', p2''⟩, j2⟩, ⟨r3, n3, rfl, ⟨p3, p3', p3''⟩, j3⟩⟩ := hy'
  have HAy := Lib.hid hy
  have HJ1 := Lib.hid j1
  clear hy j1 j2 j3
  go_enter Try.func12, Try.ntmps12
  go_upto_region 1 with (fail)
  have hE0 : Ext w (w.alloc (.cells #[.int .i64 ky, .slice r1 sy.length n1, .slice r2 ny.length n2, .slice r3 iy.length n3] 26)) := (Ext.refl _).alloc _
  have hBy := box_new w (.int .i64 ky) (.slice r1 sy.length n1) (.slice r2 ny.length n2) (.slice r3 iy.length n3)
  generalize w.alloc (.cells #[.int .i64 ky, .slice r1 sy.length n1, .slice r2 ny.length n2, .slice r3 iy.length n3] 26) = w1 at hE0 hBy ⊢
  have HBy := Lib.hid hBy
  have HE := Lib.hid hE0
  replace HAy := Lib.hid (HAy.out.ext hE0)
  replace HJ1 := Lib.hid (HJ1.out.ext hE0)
  clear hBy hE0
  go_cut [39] (fun bv wq => ∃ b : Bool, bv = .bool b ∧ Ext w1 wq ∧ (b = false → Hid (rightV (.mk ky sy ny iy) = 0) ∧ 0 < sy.length ∧ nn ≤ sy.getD 0 0 ∧ -sy.getD 0 0 ≤ nn))
  case first =>
    have HW := Lib.hid (Ext.refl w1)
    obtain ⟨t0, t1, t2, t3⟩ := HBy.out.cell
    go_wp2_with fail
    refine (small_any _ _ _ _ _ _ w1 HAy.out).mono ?_
    rintro e w2 ⟨b1, rfl, hE1⟩
    clear t0 t1 t2 t3
    replace HBy := Lib.hid (HBy.out.ext hE1)
    replace HAy := Lib.hid (HAy.out.ext hE1)
    replace HJ1 := Lib.hid (HJ1.out.ext hE1)
    replace HE := Lib.hid (HE.out.trans (hE1))
    replace HW := Lib.hid (HW.out.trans hE1)
    clear hE1
    cases b1 with
    | false =>
      go_wp2_with fail
      go_meet
      case rel => exact ⟨_, rfl, HW.out, fun h => by first | cases h | (simp at h; omega)⟩
    | true =>
    obtain ⟨t0, t1, t2, t3⟩ := HBy.out.cell
    go_wp2_with fail
    refine (r3right_any _ _ _ _ _ _ w2 HAy.out).mono ?_
    rintro e w3 ⟨rfl, hE1⟩
    rw [rright_eq]
    clear t0 t1 t2 t3
    replace HBy := Lib.hid (HBy.out.ext hE1)
    replace HAy := Lib.hid (HAy.out.ext hE1)
    replace HJ1 := Lib.hid (HJ1.out.ext hE1)
    replace HE := Lib.hid (HE.out.trans (hE1))
    replace HW := Lib.hid (HW.out.trans hE1)
    clear hE1
    generalize hrv : rightV (.mk ky sy ny iy) = rv
    by_cases hr0 : rv = 0
    case neg =>
      have hr1 : (rv != 0) = true := by simpa using hr0
      clear hrv hr0
      go_wp2_with fail
      go_meet
      case rel => exact ⟨_, rfl, HW.out, fun h => by first | cases h | (simp at h; omega)⟩
    subst hr0
    have hr1 : ((0 : Int) != 0) = false := rfl
    have HRV := Lib.hid hrv
    obtain ⟨a1, a2, a3, a4, a5⟩ := right_parts hrv
    have HNNG := Lib.hid (rightGo_nonneg sy 1 a3)
    clear hrv a1 a3 a4 a5
    obtain ⟨t0, t1, t2, t3⟩ := HBy.out.cell
    by_cases hs0 : sy.length = 0
    case pos =>
      have hs1 : ((sy.length : Int) == 0) = true := by rw [hs0]; rfl
      clear hs0
      go_wp2_with fail
      go_meet
      case rel => exact ⟨_, rfl, HW.out, fun h => by first | cases h | (simp at h; omega)⟩
    have hs1 : ((sy.length : Int) == 0) = false := beq_eq_false_iff_ne.2 (by omega)
    have hs2 : 0 < sy.length := by omega
    have hs3 : (0 : Int) < sy.length := by omega
    obtain ⟨bb, ob, rfl, cb, _, _⟩ := HJ1.out.get hs2
    rw [Nat.add_zero] at cb
    have hdb := HNNG.out (sy.getD 0 0) (getD_in hs2)
    obtain ⟨z, hz⟩ : ∃ z, z = sy.getD 0 0 := ⟨_, rfl⟩
    rw [← hz] at cb hdb
    have HZ := Lib.hid hz
    clear hz hs0
    have hdif : IntKind.i64.wrap (0 - z) = 0 - z := IntWalk.i64_in _ (by omega)
    by_cases hm0 : z < nn
    case pos =>
      go_wp2_with fail
      go_meet
      case rel => exact ⟨_, rfl, HW.out, fun h => by first | cases h | (simp at h; omega)⟩
    by_cases hnm : nn < 0 - z
    case pos =>
      have hnm' : nn < -z := by omega
      go_wp2_with fail
      go_meet
      case rel => exact ⟨_, rfl, HW.out, fun h => by first | cases h | (simp at h; omega)⟩
    have hnm' : ¬ nn < -z := by omega
    go_wp2_with fail
    go_meet
    case rel => exact ⟨_, rfl, HW.out, fun _ => ⟨HRV.out, hs2, by have := HZ.out; omega, by have := HZ.out; omega⟩⟩
  case rest =>
    obtain ⟨b, rfl, hE1, hcf⟩ := hcut
    replace HBy := Lib.hid (HBy.out.ext hE1)
    replace HAy := Lib.hid (HAy.out.ext hE1)
    replace HJ1 := Lib.hid (HJ1.out.ext hE1)
    replace HE := Lib.hid (HE.out.trans (hE1))
    cases b with
    | true =>
      go_wp2_with fail
      refine (lives_any _).mono ?_
      rintro e wl ⟨rfl, hEl⟩
      go_wp2_with fail
      go_ret
      exact ⟨rfl, HE.out.trans hEl⟩
    | false =>
    obtain ⟨hrv, hs2, hn1, hn2⟩ := hcf rfl
    clear hcf hE1
    obtain ⟨s0, tl, hsy⟩ : ∃ s0 tl, sy = s0 :: tl := by
      cases sy with
      | nil => simp at hs2
      | cons a r => exact ⟨a, r, rfl⟩
    have hp : ∃ ka sa na ia kb sb nb ib, takeV (vecV [nn]) (.mk ky sy ny iy) = (.mk ka sa na ia, 0) ∧ dropV (vecV [nn]) (.mk ky sy ny iy) = (.mk kb sb nb ib, 0) ∧ (sa.length = sy.length ∧ sb.length = sy.length) ∧ ((0 ≤ sa.getD 0 0 ∧ sa.getD 0 0 ≤ 65536) ∧ (0 ≤ sb.getD 0 0 ∧ sb.getD 0 0 ≤ 65536)) ∧ (na.length + nb.length ≤ ny.length ∧ ia.length + ib.length ≤ iy.length) ∧ (if nn < 0 then afterV (.mk kb sb nb ib) (.mk ka sa na ia) else afterV (.mk ka sa na ia) (.mk kb sb nb ib)) = .mk ky sy ny iy := by
      subst hsy
      exact take_drop_parts hrv (by simpa using hn1) (by simpa using hn2)
    obtain ⟨ka, sa, na, ia, kb, sb, nb, ib, hTA, hTB, ⟨hl1, hl2⟩, ⟨hd1, hd2⟩, ⟨hs3, hs4⟩, hAF⟩ := hp
    have HTA := Lib.hid hTA
    have HTB := Lib.hid hTB
    have HL1 := Lib.hid hl1
    have HL2 := Lib.hid hl2
    have HD1 := Lib.hid hd1
    have HD2 := Lib.hid hd2
    have HAF := Lib.hid hAF
    clear hTA hTB hl1 hl2 hd1 hd2 hAF hsy hrv hn1 hn2
    go_wp2_with fail
    refine wp_region_y2 [MProp.is (.int .i64 nn), MProp.rdi [nn], MProp.rd (vecV [nn]), MProp.is (.agg #[(.int .i64 ky), (.slice r1 sy.length n1), (.slice r2 ny.length n2), (.slice r3 iy.length n3)]), MProp.rd2 (.mk ka sa na ia) 0, MProp.rd2 (.mk ka sa na ia) 0, MProp.rd (.mk ka sa na ia), MProp.is (.int .i64 0), MProp.box] [0, 1, 2, 3, 4, 5, 6, 7, 8] [7] [42, 43, 44, 45, 46, 41, 47, 48, 5] 9 10 (by kernel_rfl) (by kernel_rfl) (by kernel_rfl) rfl rfl ?_ ?_ ?_
    · refine mem_cons_m ?_ (mem_cons_m ?_ (mem_cons_m ?_ (mem_cons_m ?_ (mem_cons_m ?_ (mem_cons_m ?_ (mem_cons_m ?_ (mem_cons_m ?_ (mem_cons_m ?_ (mem_nil_m)))))))))
      · refine ⟨_, 42, rfl, by kernel_rfl, ?_⟩
        intro u w9 X hE hX hd K hK
        clear hd
        simp only [overlay, List.setIfInBounds_toArray, List.set] at hK ⊢
        go_wp2_with fail
        exact hK _ _ X (Ext.refl _) kept_m hX rfl
      · refine ⟨_, 43, rfl, by kernel_rfl, ?_⟩
        intro u w9 X hE hX hd K hK
        have d0 : u 42 = .int .i64 nn := hd 0 (by kernel_rfl)
        clear hd
        simp only [overlay, List.setIfInBounds_toArray, List.set, d0] at hK ⊢
        go_wp2_with fail
        exact hK _ _ X ((Ext.refl _).alloc _) kept_m (hX.ext ((Ext.refl _).alloc _)) (rdix_lit w9 [nn] (by simp) (fun x hx => by rw [List.mem_singleton] at hx; omega) hX.hi)
      · refine ⟨_, 44, rfl, by kernel_rfl, ?_⟩
        intro u w9 X hE hX hd K hK
        have d1 : RdIX X w9 [nn] (u 43) := hd 1 (by kernel_rfl)
        clear hd
        simp only [overlay, List.setIfInBounds_toArray, List.set] at hK ⊢
        have e9 : Ext wc w9 := (Ext.refl wc).drew.trans hE
        go_wp2_with fail
        refine (ints_rd d1 hX.hi).mono ?_
        rintro e w8 ⟨x8, rfl, hx8, hE8⟩
        go_wp2_with fail
        exact hK _ _ X hE8 kept_m (hX.ext hE8) hx8
      · refine ⟨_, 45, rfl, by kernel_rfl, ?_⟩
        intro u w9 X hE hX hd K hK
        clear hd
        simp only [overlay, List.setIfInBounds_toArray, List.set] at hK ⊢
        have e9 : Ext wc w9 := (Ext.refl wc).drew.trans hE
        obtain ⟨s0, s1, s2, s3⟩ := (HBy.out.ext e9).cell
        go_wp2_with fail
        exact hK _ _ X (Ext.refl _) kept_m hX rfl
      · refine ⟨_, 46, rfl, by kernel_rfl, ?_⟩
        intro u w9 X hE hX hd K hK
        have d2 : RdX X w9 (vecV [nn]) (u 44) := hd 2 (by kernel_rfl)
        have d3 : u 45 = .agg #[(.int .i64 ky), (.slice r1 sy.length n1), (.slice r2 ny.length n2), (.slice r3 iy.length n3)] := hd 3 (by kernel_rfl)
        clear hd
        simp only [overlay, List.setIfInBounds_toArray, List.set, d3] at hK ⊢
        have e9 : Ext wc w9 := (Ext.refl wc).drew.trans hE
        go_wp2_with fail
        refine (take_at HTA.out d2 (RdX.old HAy.out e9 hX.lo) hX.hi).mono ?_
        rintro e w8 ⟨x8, rfl, hx8, hE8⟩
        go_wp2_with fail
        exact hK _ _ X hE8 kept_m (hX.ext hE8) ⟨x8, rfl, hx8⟩
      · refine ⟨_, 41, rfl, by kernel_rfl, ?_⟩
        intro u w9 X hE hX hd K hK
        have d4 : ∃ x, u 46 = .tuple #[x, .int .i64 0] ∧ RdX X w9 (.mk ka sa na ia) x := hd 4 (by kernel_rfl)
        clear hd
        simp only [overlay, List.setIfInBounds_toArray, List.set] at hK ⊢
        obtain ⟨x8, hv8, hx8⟩ := d4
        simp only [hv8] at hK ⊢
        go_wp2_with fail
        exact hK _ _ X (Ext.refl _) kept_m hX ⟨x8, rfl, hx8⟩
      · refine ⟨_, 47, rfl, by kernel_rfl, ?_⟩
        intro u w9 X hE hX hd K hK
        have d5 : ∃ x, u 41 = .tuple #[x, .int .i64 0] ∧ RdX X w9 (.mk ka sa na ia) x := hd 5 (by kernel_rfl)
        clear hd
        simp only [overlay, List.setIfInBounds_toArray, List.set] at hK ⊢
        obtain ⟨x8, hv8, hx8⟩ := d5
        simp only [hv8] at hK ⊢
        go_wp2_with fail
        exact hK _ _ X (Ext.refl _) kept_m hX hx8
      · refine ⟨_, 48, rfl, by kernel_rfl, ?_⟩
        intro u w9 X hE hX hd K hK
        have d5 : ∃ x, u 41 = .tuple #[x, .int .i64 0] ∧ RdX X w9 (.mk ka sa na ia) x := hd 5 (by kernel_rfl)
        clear hd
        simp only [overlay, List.setIfInBounds_toArray, List.set] at hK ⊢
        obtain ⟨x8, hv8, hx8⟩ := d5
        simp only [hv8] at hK ⊢
        go_wp2_with fail
        exact hK _ _ X (Ext.refl _) kept_m hX rfl
      · refine ⟨_, 5, rfl, by kernel_rfl, ?_⟩
        intro u w9 X hE hX hd K hK
        clear hd
        simp only [overlay, List.setIfInBounds_toArray, List.set] at hK ⊢
        go_wp2_with fail
        exact hK _ _ (fun b => X b ∨ b = w9.heap.size) ((Ext.refl _).alloc _) added_m (hX.add hE _) ⟨_, rfl, box_new _ _ _ _ _, .inr rfl⟩
    · refine mem_cons_m ?_ (mem_nil_m)
      · refine ⟨_, rfl, ?_⟩
        intro u w9 X hd
        have d5 : ∃ x, u 41 = .tuple #[x, .int .i64 0] ∧ RdX X w9 (.mk ka sa na ia) x := hd 5 (by kernel_rfl)
        clear hd
        obtain ⟨x8, hv8, hx8⟩ := d5
        simp only [overlay, List.setIfInBounds_toArray, List.set, hv8]
        exact ⟨.int .i64 0, .inl ⟨by kernel_rfl, fun w8 => by go_simp⟩, rfl⟩
    intro u w9 X hE hX hd
    have d0 : u 42 = .int .i64 nn := hd 0 (by decide)
    have d1 : RdIX X w9 [nn] (u 43) := hd 1 (by decide)
    have d2 : RdX X w9 (vecV [nn]) (u 44) := hd 2 (by decide)
    have d3 : u 45 = .agg #[(.int .i64 ky), (.slice r1 sy.length n1), (.slice r2 ny.length n2), (.slice r3 iy.length n3)] := hd 3 (by decide)
    have d4 : ∃ x, u 46 = .tuple #[x, .int .i64 0] ∧ RdX X w9 (.mk ka sa na ia) x := hd 4 (by decide)
    have d5 : ∃ x, u 41 = .tuple #[x, .int .i64 0] ∧ RdX X w9 (.mk ka sa na ia) x := hd 5 (by decide)
    have d6 : RdX X w9 (.mk ka sa na ia) (u 47) := hd 6 (by decide)
    have d7 : u 48 = .int .i64 0 := hd 7 (by decide)
    have d8 : ∃ b, u 5 = .pointer (some ⟨b, 0, none⟩) ∧ Box4 w9 b (.int .i64 0) (.slice none 0 0) (.slice none 0 0) (.slice none 0 0) ∧ X b := hd 8 (by decide)
    clear hd
    simp only [overlay, List.setIfInBounds_toArray, List.set, d0, d3, d7]
    have e9 : Ext wc w9 := (Ext.refl wc).drew.trans hE
    obtain ⟨boz1, hvb, hbox, hxb⟩ := d8
    obtain ⟨c0, c1, c2, c3, hva, hA9⟩ := d6
    obtain ⟨kz1, paz1, laz1, maz1, pbz1, lbz1, mbz1, pcz1, lcz1, mcz1, rfl, rfl, rfl, rfl⟩ := hA9.form
    have hbo := hX boz1 hxb
    simp only [hvb, hva]
    obtain ⟨s0, s1, s2, s3⟩ := hbox.cell
    have f0 := hbox.free 0
    have f1 := hbox.free 1
    have f2 := hbox.free 2
    have f3 := hbox.free 3
    obtain ⟨gg1, gg2, gg3⟩ := hbox.put4 e9 hbo.1 (.int .i64 kz1) (.slice paz1 laz1 maz1) (.slice pbz1 lbz1 mbz1) (.slice pcz1 lcz1 mcz1)
    have hAn := ArrAt.mono (G := fun _ => True) (fun b hb _ => ⟨trivial, gg3 b (fun e => hb.2 (by rw [e]; exact hxb))⟩) _ _ _ _ _ hA9
    have HGG := Lib.hid (And.intro gg1 (And.intro gg2 hAn))
    clear gg1 gg2 gg3 hAn hA9 hbo hxb hbox
    clear d0 d1 d2 d3 d4 d5 d7
    clear hX hE
    generalize u 43 = t43z1 at *
    generalize u 44 = t44z1 at *
    generalize u 46 = t46z1 at *
    generalize u 41 = t41z1 at *
    clear hvb hva
    clear u
    go_wp2_with fail
    refine OnlyN.mk ?_
    obtain ⟨gg1, gg2, hAn⟩ := HGG.out
    clear HGG s0 s1 s2 s3 f0 f1 f2 f3 e9
    generalize ((((w9.setCell ⟨boz1, 0, none⟩ (.int .i64 kz1)).setCell ⟨boz1, 1, none⟩ (.slice paz1 laz1 maz1)).setCell ⟨boz1, 2, none⟩ (.slice pbz1 lbz1 mbz1)).setCell ⟨boz1, 3, none⟩ (.slice pcz1 lcz1 mcz1)) = wk2 at *
    replace HBy := Lib.hid (HBy.out.ext gg1)
    replace HAy := Lib.hid (HAy.out.ext gg1)
    replace HJ1 := Lib.hid (HJ1.out.ext gg1)
    replace HE := Lib.hid (HE.out.trans (gg1))
    have HBa := Lib.hid gg2
    have HAa := Lib.hid hAn
    clear gg1 gg2 hAn
    go_wp2_with fail
    refine wp_region_y2 [MProp.is (.int .i64 nn), MProp.rdi [nn], MProp.rd (vecV [nn]), MProp.is (.agg #[(.int .i64 ky), (.slice r1 sy.length n1), (.slice r2 ny.length n2), (.slice r3 iy.length n3)]), MProp.rd2 (.mk kb sb nb ib) 0, MProp.rd2 (.mk kb sb nb ib) 0, MProp.rd (.mk kb sb nb ib), MProp.is (.int .i64 0), MProp.box] [0, 1, 2, 3, 4, 5, 6, 7, 8] [7] [50, 51, 52, 53, 54, 49, 55, 56, 7] 9 10 (by kernel_rfl) (by kernel_rfl) (by kernel_rfl) rfl rfl ?_ ?_ ?_
    · refine mem_cons_m ?_ (mem_cons_m ?_ (mem_cons_m ?_ (mem_cons_m ?_ (mem_cons_m ?_ (mem_cons_m ?_ (mem_cons_m ?_ (mem_cons_m ?_ (mem_cons_m ?_ (mem_nil_m)))))))))
      · refine ⟨_, 50, rfl, by kernel_rfl, ?_⟩
        intro u w9 X hE hX hd K hK
        clear hd
        simp only [overlay, List.setIfInBounds_toArray, List.set] at hK ⊢
        go_wp2_with fail
        exact hK _ _ X (Ext.refl _) kept_m hX rfl
      · refine ⟨_, 51, rfl, by kernel_rfl, ?_⟩
        intro u w9 X hE hX hd K hK
        have d0 : u 50 = .int .i64 nn := hd 0 (by kernel_rfl)
        clear hd
        simp only [overlay, List.setIfInBounds_toArray, List.set, d0] at hK ⊢
        go_wp2_with fail
        exact hK _ _ X ((Ext.refl _).alloc _) kept_m (hX.ext ((Ext.refl _).alloc _)) (rdix_lit w9 [nn] (by simp) (fun x hx => by rw [List.mem_singleton] at hx; omega) hX.hi)
      · refine ⟨_, 52, rfl, by kernel_rfl, ?_⟩
        intro u w9 X hE hX hd K hK
        have d1 : RdIX X w9 [nn] (u 51) := hd 1 (by kernel_rfl)
        clear hd
        simp only [overlay, List.setIfInBounds_toArray, List.set] at hK ⊢
        have e9 : Ext wk2 w9 := (Ext.refl wk2).drew.trans hE
        go_wp2_with fail
        refine (ints_rd d1 hX.hi).mono ?_
        rintro e w8 ⟨x8, rfl, hx8, hE8⟩
        go_wp2_with fail
        exact hK _ _ X hE8 kept_m (hX.ext hE8) hx8
      · refine ⟨_, 53, rfl, by kernel_rfl, ?_⟩
        intro u w9 X hE hX hd K hK
        clear hd
        simp only [overlay, List.setIfInBounds_toArray, List.set] at hK ⊢
        have e9 : Ext wk2 w9 := (Ext.refl wk2).drew.trans hE
        obtain ⟨s0, s1, s2, s3⟩ := (HBy.out.ext e9).cell
        go_wp2_with fail
        exact hK _ _ X (Ext.refl _) kept_m hX rfl
      · refine ⟨_, 54, rfl, by kernel_rfl, ?_⟩
        intro u w9 X hE hX hd K hK
        have d2 : RdX X w9 (vecV [nn]) (u 52) := hd 2 (by kernel_rfl)
        have d3 : u 53 = .agg #[(.int .i64 ky), (.slice r1 sy.length n1), (.slice r2 ny.length n2), (.slice r3 iy.length n3)] := hd 3 (by kernel_rfl)
        clear hd
        simp only [overlay, List.setIfInBounds_toArray, List.set, d3] at hK ⊢
        have e9 : Ext wk2 w9 := (Ext.refl wk2).drew.trans hE
        go_wp2_with fail
        refine (drop_at HTB.out d2 (RdX.old HAy.out e9 hX.lo) hX.hi).mono ?_
        rintro e w8 ⟨x8, rfl, hx8, hE8⟩
        go_wp2_with fail
        exact hK _ _ X hE8 kept_m (hX.ext hE8) ⟨x8, rfl, hx8⟩
      · refine ⟨_, 49, rfl, by kernel_rfl, ?_⟩
        intro u w9 X hE hX hd K hK
        have d4 : ∃ x, u 54 = .tuple #[x, .int .i64 0] ∧ RdX X w9 (.mk kb sb nb ib) x := hd 4 (by kernel_rfl)
        clear hd
        simp only [overlay, List.setIfInBounds_toArray, List.set] at hK ⊢
        obtain ⟨x8, hv8, hx8⟩ := d4
        simp only [hv8] at hK ⊢
        go_wp2_with fail
        exact hK _ _ X (Ext.refl _) kept_m hX ⟨x8, rfl, hx8⟩
      · refine ⟨_, 55, rfl, by kernel_rfl, ?_⟩
        intro u w9 X hE hX hd K hK
        have d5 : ∃ x, u 49 = .tuple #[x, .int .i64 0] ∧ RdX X w9 (.mk kb sb nb ib) x := hd 5 (by kernel_rfl)
        clear hd
        simp only [overlay, List.setIfInBounds_toArray, List.set] at hK ⊢
        obtain ⟨x8, hv8, hx8⟩ := d5
        simp only [hv8] at hK ⊢
        go_wp2_with fail
        exact hK _ _ X (Ext.refl _) kept_m hX hx8
      · refine ⟨_, 56, rfl, by kernel_rfl, ?_⟩
        intro u w9 X hE hX hd K hK
        have d5 : ∃ x, u 49 = .tuple #[x, .int .i64 0] ∧ RdX X w9 (.mk kb sb nb ib) x := hd 5 (by kernel_rfl)
        clear hd
        simp only [overlay, List.setIfInBounds_toArray, List.set] at hK ⊢
        obtain ⟨x8, hv8, hx8⟩ := d5
        simp only [hv8] at hK ⊢
        go_wp2_with fail
        exact hK _ _ X (Ext.refl _) kept_m hX rfl
      · refine ⟨_, 7, rfl, by kernel_rfl, ?_⟩
        intro u w9 X hE hX hd K hK
        clear hd
        simp only [overlay, List.setIfInBounds_toArray, List.set] at hK ⊢
        go_wp2_with fail
        exact hK _ _ (fun b => X b ∨ b = w9.heap.size) ((Ext.refl _).alloc _) added_m (hX.add hE _) ⟨_, rfl, box_new _ _ _ _ _, .inr rfl⟩
    · refine mem_cons_m ?_ (mem_nil_m)
      · refine ⟨_, rfl, ?_⟩
        intro u w9 X hd
        have d5 : ∃ x, u 49 = .tuple #[x, .int .i64 0] ∧ RdX X w9 (.mk kb sb nb ib) x := hd 5 (by kernel_rfl)
        clear hd
        obtain ⟨x8, hv8, hx8⟩ := d5
        simp only [overlay, List.setIfInBounds_toArray, List.set, hv8]
        exact ⟨.int .i64 0, .inl ⟨by kernel_rfl, fun w8 => by go_simp⟩, rfl⟩
    intro u w9 X hE hX hd
    have d0 : u 50 = .int .i64 nn := hd 0 (by decide)
    have d1 : RdIX X w9 [nn] (u 51) := hd 1 (by decide)
    have d2 : RdX X w9 (vecV [nn]) (u 52) := hd 2 (by decide)
    have d3 : u 53 = .agg #[(.int .i64 ky), (.slice r1 sy.length n1), (.slice r2 ny.length n2), (.slice r3 iy.length n3)] := hd 3 (by decide)
    have d4 : ∃ x, u 54 = .tuple #[x, .int .i64 0] ∧ RdX X w9 (.mk kb sb nb ib) x := hd 4 (by decide)
    have d5 : ∃ x, u 49 = .tuple #[x, .int .i64 0] ∧ RdX X w9 (.mk kb sb nb ib) x := hd 5 (by decide)
    have d6 : RdX X w9 (.mk kb sb nb ib) (u 55) := hd 6 (by decide)
    have d7 : u 56 = .int .i64 0 := hd 7 (by decide)
    have d8 : ∃ b, u 7 = .pointer (some ⟨b, 0, none⟩) ∧ Box4 w9 b (.int .i64 0) (.slice none 0 0) (.slice none 0 0) (.slice none 0 0) ∧ X b := hd 8 (by decide)
    clear hd
    simp only [overlay, List.setIfInBounds_toArray, List.set, d0, d3, d7]
    have e9 : Ext wk2 w9 := (Ext.refl wk2).drew.trans hE
    obtain ⟨boz3, hvb, hbox, hxb⟩ := d8
    obtain ⟨c0, c1, c2, c3, hva, hA9⟩ := d6
    obtain ⟨kz3, paz3, laz3, maz3, pbz3, lbz3, mbz3, pcz3, lcz3, mcz3, rfl, rfl, rfl, rfl⟩ := hA9.form
    have hbo := hX boz3 hxb
    simp only [hvb, hva]
    obtain ⟨s0, s1, s2, s3⟩ := hbox.cell
    have f0 := hbox.free 0
    have f1 := hbox.free 1
    have f2 := hbox.free 2
    have f3 := hbox.free 3
    obtain ⟨gg1, gg2, gg3⟩ := hbox.put4 e9 hbo.1 (.int .i64 kz3) (.slice paz3 laz3 maz3) (.slice pbz3 lbz3 mbz3) (.slice pcz3 lcz3 mcz3)
    have hAn := ArrAt.mono (G := fun _ => True) (fun b hb _ => ⟨trivial, gg3 b (fun e => hb.2 (by rw [e]; exact hxb))⟩) _ _ _ _ _ hA9
    have HGG := Lib.hid (And.intro gg1 (And.intro gg2 hAn))
    clear gg1 gg2 gg3 hAn hA9 hbo hxb hbox
    clear d0 d1 d2 d3 d4 d5 d7
    clear hX hE
    generalize u 51 = t51z3 at *
    generalize u 52 = t52z3 at *
    generalize u 54 = t54z3 at *
    generalize u 49 = t49z3 at *
    clear hvb hva
    clear u
    go_wp2_with fail
    refine OnlyN.mk ?_
    obtain ⟨gg1, gg2, hAn⟩ := HGG.out
    clear HGG s0 s1 s2 s3 f0 f1 f2 f3 e9
    generalize ((((w9.setCell ⟨boz3, 0, none⟩ (.int .i64 kz3)).setCell ⟨boz3, 1, none⟩ (.slice paz3 laz3 maz3)).setCell ⟨boz3, 2, none⟩ (.slice pbz3 lbz3 mbz3)).setCell ⟨boz3, 3, none⟩ (.slice pcz3 lcz3 mcz3)) = wk4 at *
    replace HBy := Lib.hid (HBy.out.ext gg1)
    replace HAy := Lib.hid (HAy.out.ext gg1)
    replace HBa := Lib.hid (HBa.out.ext gg1)
    replace HAa := Lib.hid (HAa.out.ext gg1)
    replace HJ1 := Lib.hid (HJ1.out.ext gg1)
    replace HE := Lib.hid (HE.out.trans (gg1))
    have HBb := Lib.hid gg2
    have HAb := Lib.hid hAn
    clear gg1 gg2 hAn
    have hla : (laz1 : Nat) = sy.length := by
      have h := HAa.out
      unfold ArrAt at h
      obtain ⟨_, _, ⟨p, c, e, _⟩, _⟩ := h
      simp only [Value.slice.injEq] at e
      rw [e.2.1]
      exact HL1.out
    have hba : ((laz1 : Int) != (sy.length : Int)) = false := by rw [hla]; simp
    clear hla
    have hlb : (laz3 : Nat) = sy.length := by
      have h := HAb.out
      unfold ArrAt at h
      obtain ⟨_, _, ⟨p, c, e, _⟩, _⟩ := h
      simp only [Value.slice.injEq] at e
      rw [e.2.1]
      exact HL2.out
    have hbb : ((laz3 : Int) != (sy.length : Int)) = false := by rw [hlb]; simp
    clear hlb
    obtain ⟨s00, s01, s02, s03⟩ := HBa.out.cell
    obtain ⟨s10, s11, s12, s13⟩ := HBb.out.cell
    obtain ⟨s20, s21, s22, s23⟩ := HBy.out.cell
    have hl1 : 0 < sa.length := by rw [HL1.out]; exact hs2
    have hl2 : 0 < sb.length := by rw [HL2.out]; exact hs2
    have HLL := Lib.hid (And.intro hl1 hl2)
    clear hl1 hl2
    by_cases hneg : nn < 0
    · have haf := HAF.out
      rw [if_pos hneg] at haf
      have HAF2 := Lib.hid haf
      clear haf HAF
      go_wp2_with fail
      clear s00 s01 s02 s03 s10 s11 s12 s13 s20 s21 s22 s23
      refine wp_region_x0 [MProp.is (.agg #[(.int .i64 kz3), (.slice paz3 laz3 maz3), (.slice pbz3 lbz3 mbz3), (.slice pcz3 lcz3 mcz3)]), MProp.is (.agg #[(.int .i64 kz1), (.slice paz1 laz1 maz1), (.slice pbz1 lbz1 mbz1), (.slice pcz1 lcz1 mcz1)]), MProp.rd (.mk ky sy ny iy), MProp.is (.agg #[(.int .i64 ky), (.slice r1 sy.length n1), (.slice r2 ny.length n2), (.slice r3 iy.length n3)]), MProp.is (.bool true), MProp.is (.bool true), MProp.is (.bool true), MProp.is (.bool true), MProp.is (.bool true)] [0, 1, 2, 3, 4, 5, 6, 7, 8] [] [83, 84, 85, 86, 87, 88, 89, 90, 4] (by kernel_rfl) (by kernel_rfl) (by kernel_rfl) ?_ ?_ ?_
      · refine mem_cons_m ?_ (mem_cons_m ?_ (mem_cons_m ?_ (mem_cons_m ?_ (mem_cons_m ?_ (mem_cons_m ?_ (mem_cons_m ?_ (mem_cons_m ?_ (mem_cons_m ?_ (mem_nil_m)))))))))
        · refine ⟨_, 83, rfl, by kernel_rfl, ?_⟩
          intro u w9 X hE hX hd K hK
          clear hd
          simp only [overlay, List.setIfInBounds_toArray, List.set] at hK ⊢
          have e9 : Ext wk4 w9 := (Ext.refl wk4).drew.trans hE
          obtain ⟨s0, s1, s2, s3⟩ := (HBb.out.ext e9).cell
          go_wp2_with fail
          exact hK _ _ X (Ext.refl _) kept_m hX rfl
        · refine ⟨_, 84, rfl, by kernel_rfl, ?_⟩
          intro u w9 X hE hX hd K hK
          clear hd
          simp only [overlay, List.setIfInBounds_toArray, List.set] at hK ⊢
          have e9 : Ext wk4 w9 := (Ext.refl wk4).drew.trans hE
          obtain ⟨s0, s1, s2, s3⟩ := (HBa.out.ext e9).cell
          go_wp2_with fail
          exact hK _ _ X (Ext.refl _) kept_m hX rfl
        · refine ⟨_, 85, rfl, by kernel_rfl, ?_⟩
          intro u w9 X hE hX hd K hK
          have d0 : u 83 = .agg #[(.int .i64 kz3), (.slice paz3 laz3 maz3), (.slice pbz3 lbz3 mbz3), (.slice pcz3 lcz3 mcz3)] := hd 0 (by kernel_rfl)
          have d1 : u 84 = .agg #[(.int .i64 kz1), (.slice paz1 laz1 maz1), (.slice pbz1 lbz1 mbz1), (.slice pcz1 lcz1 mcz1)] := hd 1 (by kernel_rfl)
          clear hd
          simp only [overlay, List.setIfInBounds_toArray, List.set, d0, d1] at hK ⊢
          have e9 : Ext wk4 w9 := (Ext.refl wk4).drew.trans hE
          go_wp2_with fail
          refine (after_at HAF2.out (RdX.old HAb.out e9 hX.lo) (RdX.old HAa.out e9 hX.lo) hX.hi HLL.out.2 HLL.out.1 HD2.out HD1.out (by omega) (by omega)).mono ?_
          rintro e w8 ⟨x8, rfl, hx8, hE8⟩
          go_wp2_with fail
          exact hK _ _ X hE8 kept_m (hX.ext hE8) hx8
        · refine ⟨_, 86, rfl, by kernel_rfl, ?_⟩
          intro u w9 X hE hX hd K hK
          clear hd
          simp only [overlay, List.setIfInBounds_toArray, List.set] at hK ⊢
          have e9 : Ext wk4 w9 := (Ext.refl wk4).drew.trans hE
          obtain ⟨s0, s1, s2, s3⟩ := (HBy.out.ext e9).cell
          go_wp2_with fail
          exact hK _ _ X (Ext.refl _) kept_m hX rfl
        · refine ⟨_, 87, rfl, by kernel_rfl, ?_⟩
          intro u w9 X hE hX hd K hK
          have d2 : RdX X w9 (.mk ky sy ny iy) (u 85) := hd 2 (by kernel_rfl)
          have d3 : u 86 = .agg #[(.int .i64 ky), (.slice r1 sy.length n1), (.slice r2 ny.length n2), (.slice r3 iy.length n3)] := hd 3 (by kernel_rfl)
          clear hd
          simp only [overlay, List.setIfInBounds_toArray, List.set, d3] at hK ⊢
          have e9 : Ext wk4 w9 := (Ext.refl wk4).drew.trans hE
          go_wp2_with fail
          refine (same_tr (d2).rd ((RdX.old HAy.out e9 hX.lo)).rd rfl rfl).mono ?_
          rintro e w8 ⟨rfl, hE8⟩
          go_wp2_with fail
          exact hK _ _ X hE8 kept_m (hX.ext hE8) rfl
        · refine ⟨_, 88, rfl, by kernel_rfl, ?_⟩
          intro u w9 X hE hX hd K hK
          have d4 : u 87 = .bool true := hd 4 (by kernel_rfl)
          clear hd
          simp only [overlay, List.setIfInBounds_toArray, List.set, d4] at hK ⊢
          go_wp2_with fail
          exact hK _ _ X (Ext.refl _) kept_m hX rfl
        · refine ⟨_, 89, rfl, by kernel_rfl, ?_⟩
          intro u w9 X hE hX hd K hK
          have d5 : u 88 = .bool true := hd 5 (by kernel_rfl)
          clear hd
          simp only [overlay, List.setIfInBounds_toArray, List.set, d5] at hK ⊢
          have e9 : Ext wk4 w9 := (Ext.refl wk4).drew.trans hE
          go_wp2_with fail
          refine (lives_any _).mono ?_
          rintro e w8 ⟨rfl, hE8⟩
          go_wp2_with fail
          exact hK _ _ X hE8 kept_m (hX.ext hE8) rfl
        · refine ⟨_, 90, rfl, by kernel_rfl, ?_⟩
          intro u w9 X hE hX hd K hK
          have d5 : u 88 = .bool true := hd 5 (by kernel_rfl)
          have d6 : u 89 = .bool true := hd 6 (by kernel_rfl)
          clear hd
          simp only [overlay, List.setIfInBounds_toArray, List.set, d5, d6] at hK ⊢
          go_wp2_with fail
          exact hK _ _ X (Ext.refl _) kept_m hX rfl
        · refine ⟨_, 4, rfl, by kernel_rfl, ?_⟩
          intro u w9 X hE hX hd K hK
          have d7 : u 90 = .bool true := hd 7 (by kernel_rfl)
          clear hd
          simp only [overlay, List.setIfInBounds_toArray, List.set, d7] at hK ⊢
          go_wp2_with fail
          exact hK _ _ X (Ext.refl _) kept_m hX rfl
      · exact mem_nil_m
      intro u w9 X hE hX hd
      have d0 : u 83 = .agg #[(.int .i64 kz3), (.slice paz3 laz3 maz3), (.slice pbz3 lbz3 mbz3), (.slice pcz3 lcz3 mcz3)] := hd 0 (by decide)
      have d1 : u 84 = .agg #[(.int .i64 kz1), (.slice paz1 laz1 maz1), (.slice pbz1 lbz1 mbz1), (.slice pcz1 lcz1 mcz1)] := hd 1 (by decide)
      have d2 : RdX X w9 (.mk ky sy ny iy) (u 85) := hd 2 (by decide)
      have d3 : u 86 = .agg #[(.int .i64 ky), (.slice r1 sy.length n1), (.slice r2 ny.length n2), (.slice r3 iy.length n3)] := hd 3 (by decide)
      have d4 : u 87 = .bool true := hd 4 (by decide)
      have d5 : u 88 = .bool true := hd 5 (by decide)
      have d6 : u 89 = .bool true := hd 6 (by decide)
      have d7 : u 90 = .bool true := hd 7 (by decide)
      have d8 : u 4 = .bool true := hd 8 (by decide)
      clear hd
      simp only [overlay, List.setIfInBounds_toArray, List.set, d0, d1, d3, d4, d5, d6, d7, d8]
      have e9 : Ext wk4 w9 := (Ext.refl wk4).drew.trans hE
      clear d0 d1 d2 d3 d4 d5 d6 d7 d8
      clear hX hE
      generalize u 85 = t85z5
      clear u
      obtain ⟨wk6, rfl⟩ : ∃ wx : World, wx = w9 := ⟨_, rfl⟩
      replace HBy := Lib.hid (HBy.out.ext e9)
      replace HAy := Lib.hid (HAy.out.ext e9)
      replace HBa := Lib.hid (HBa.out.ext e9)
      replace HAa := Lib.hid (HAa.out.ext e9)
      replace HBb := Lib.hid (HBb.out.ext e9)
      replace HAb := Lib.hid (HAb.out.ext e9)
      replace HJ1 := Lib.hid (HJ1.out.ext e9)
      replace HE := Lib.hid (HE.out.trans (e9))
      clear e9
      go_wp2_with fail
      go_ret
      exact ⟨rfl, HE.out⟩
    · have haf := HAF.out
      rw [if_neg hneg] at haf
      have HAF2 := Lib.hid haf
      clear haf HAF
      go_wp2_with fail
      clear s00 s01 s02 s03 s10 s11 s12 s13 s20 s21 s22 s23
      refine wp_region_x0 [MProp.is (.agg #[(.int .i64 kz1), (.slice paz1 laz1 maz1), (.slice pbz1 lbz1 mbz1), (.slice pcz1 lcz1 mcz1)]), MProp.is (.agg #[(.int .i64 kz3), (.slice paz3 laz3 maz3), (.slice pbz3 lbz3 mbz3), (.slice pcz3 lcz3 mcz3)]), MProp.rd (.mk ky sy ny iy), MProp.is (.agg #[(.int .i64 ky), (.slice r1 sy.length n1), (.slice r2 ny.length n2), (.slice r3 iy.length n3)]), MProp.is (.bool true), MProp.is (.bool true), MProp.is (.bool true), MProp.is (.bool true), MProp.is (.bool true)] [0, 1, 2, 3, 4, 5, 6, 7, 8] [] [91, 92, 93, 94, 95, 96, 97, 98, 4] (by kernel_rfl) (by kernel_rfl) (by kernel_rfl) ?_ ?_ ?_
      · refine mem_cons_m ?_ (mem_cons_m ?_ (mem_cons_m ?_ (mem_cons_m ?_ (mem_cons_m ?_ (mem_cons_m ?_ (mem_cons_m ?_ (mem_cons_m ?_ (mem_cons_m ?_ (mem_nil_m)))))))))
        · refine ⟨_, 91, rfl, by kernel_rfl, ?_⟩
          intro u w9 X hE hX hd K hK
          clear hd
          simp only [overlay, List.setIfInBounds_toArray, List.set] at hK ⊢
          have e9 : Ext wk4 w9 := (Ext.refl wk4).drew.trans hE
          obtain ⟨s0, s1, s2, s3⟩ := (HBa.out.ext e9).cell
          go_wp2_with fail
          exact hK _ _ X (Ext.refl _) kept_m hX rfl
        · refine ⟨_, 92, rfl, by kernel_rfl, ?_⟩
          intro u w9 X hE hX hd K hK
          clear hd
          simp only [overlay, List.setIfInBounds_toArray, List.set] at hK ⊢
          have e9 : Ext wk4 w9 := (Ext.refl wk4).drew.trans hE
          obtain ⟨s0, s1, s2, s3⟩ := (HBb.out.ext e9).cell
          go_wp2_with fail
          exact hK _ _ X (Ext.refl _) kept_m hX rfl
        · refine ⟨_, 93, rfl, by kernel_rfl, ?_⟩
          intro u w9 X hE hX hd K hK
          have d0 : u 91 = .agg #[(.int .i64 kz1), (.slice paz1 laz1 maz1), (.slice pbz1 lbz1 mbz1), (.slice pcz1 lcz1 mcz1)] := hd 0 (by kernel_rfl)
          have d1 : u 92 = .agg #[(.int .i64 kz3), (.slice paz3 laz3 maz3), (.slice pbz3 lbz3 mbz3), (.slice pcz3 lcz3 mcz3)] := hd 1 (by kernel_rfl)
          clear hd
          simp only [overlay, List.setIfInBounds_toArray, List.set, d0, d1] at hK ⊢
          have e9 : Ext wk4 w9 := (Ext.refl wk4).drew.trans hE
          go_wp2_with fail
          refine (after_at HAF2.out (RdX.old HAa.out e9 hX.lo) (RdX.old HAb.out e9 hX.lo) hX.hi HLL.out.1 HLL.out.2 HD1.out HD2.out (by omega) (by omega)).mono ?_
          rintro e w8 ⟨x8, rfl, hx8, hE8⟩
          go_wp2_with fail
          exact hK _ _ X hE8 kept_m (hX.ext hE8) hx8
        · refine ⟨_, 94, rfl, by kernel_rfl, ?_⟩
          intro u w9 X hE hX hd K hK
          clear hd
          simp only [overlay, List.setIfInBounds_toArray, List.set] at hK ⊢
          have e9 : Ext wk4 w9 := (Ext.refl wk4).drew.trans hE
          obtain ⟨s0, s1, s2, s3⟩ := (HBy.out.ext e9).cell
          go_wp2_with fail
          exact hK _ _ X (Ext.refl _) kept_m hX rfl
        · refine ⟨_, 95, rfl, by kernel_rfl, ?_⟩
          intro u w9 X hE hX hd K hK
          have d2 : RdX X w9 (.mk ky sy ny iy) (u 93) := hd 2 (by kernel_rfl)
          have d3 : u 94 = .agg #[(.int .i64 ky), (.slice r1 sy.length n1), (.slice r2 ny.length n2), (.slice r3 iy.length n3)] := hd 3 (by kernel_rfl)
          clear hd
          simp only [overlay, List.setIfInBounds_toArray, List.set, d3] at hK ⊢
          have e9 : Ext wk4 w9 := (Ext.refl wk4).drew.trans hE
          go_wp2_with fail
          refine (same_tr (d2).rd ((RdX.old HAy.out e9 hX.lo)).rd rfl rfl).mono ?_
          rintro e w8 ⟨rfl, hE8⟩
          go_wp2_with fail
          exact hK _ _ X hE8 kept_m (hX.ext hE8) rfl
        · refine ⟨_, 96, rfl, by kernel_rfl, ?_⟩
          intro u w9 X hE hX hd K hK
          have d4 : u 95 = .bool true := hd 4 (by kernel_rfl)
          clear hd
          simp only [overlay, List.setIfInBounds_toArray, List.set, d4] at hK ⊢
          go_wp2_with fail
          exact hK _ _ X (Ext.refl _) kept_m hX rfl
        · refine ⟨_, 97, rfl, by kernel_rfl, ?_⟩
          intro u w9 X hE hX hd K hK
          have d5 : u 96 = .bool true := hd 5 (by kernel_rfl)
          clear hd
          simp only [overlay, List.setIfInBounds_toArray, List.set, d5] at hK ⊢
          have e9 : Ext wk4 w9 := (Ext.refl wk4).drew.trans hE
          go_wp2_with fail
          refine (lives_any _).mono ?_
          rintro e w8 ⟨rfl, hE8⟩
          go_wp2_with fail
          exact hK _ _ X hE8 kept_m (hX.ext hE8) rfl
        · refine ⟨_, 98, rfl, by kernel_rfl, ?_⟩
          intro u w9 X hE hX hd K hK
          have d5 : u 96 = .bool true := hd 5 (by kernel_rfl)
          have d6 : u 97 = .bool true := hd 6 (by kernel_rfl)
          clear hd
          simp only [overlay, List.setIfInBounds_toArray, List.set, d5, d6] at hK ⊢
          go_wp2_with fail
          exact hK _ _ X (Ext.refl _) kept_m hX rfl
        · refine ⟨_, 4, rfl, by kernel_rfl, ?_⟩
          intro u w9 X hE hX hd K hK
          have d7 : u 98 = .bool true := hd 7 (by kernel_rfl)
          clear hd
          simp only [overlay, List.setIfInBounds_toArray, List.set, d7] at hK ⊢
          go_wp2_with fail
          exact hK _ _ X (Ext.refl _) kept_m hX rfl
      · exact mem_nil_m
      intro u w9 X hE hX hd
      have d0 : u 91 = .agg #[(.int .i64 kz1), (.slice paz1 laz1 maz1), (.slice pbz1 lbz1 mbz1), (.slice pcz1 lcz1 mcz1)] := hd 0 (by decide)
      have d1 : u 92 = .agg #[(.int .i64 kz3), (.slice paz3 laz3 maz3), (.slice pbz3 lbz3 mbz3), (.slice pcz3 lcz3 mcz3)] := hd 1 (by decide)
      have d2 : RdX X w9 (.mk ky sy ny iy) (u 93) := hd 2 (by decide)
      have d3 : u 94 = .agg #[(.int .i64 ky), (.slice r1 sy.length n1), (.slice r2 ny.length n2), (.slice r3 iy.length n3)] := hd 3 (by decide)
      have d4 : u 95 = .bool true := hd 4 (by decide)
      have d5 : u 96 = .bool true := hd 5 (by decide)
      have d6 : u 97 = .bool true := hd 6 (by decide)
      have d7 : u 98 = .bool true := hd 7 (by decide)
      have d8 : u 4 = .bool true := hd 8 (by decide)
      clear hd
      simp only [overlay, List.setIfInBounds_toArray, List.set, d0, d1, d3, d4, d5, d6, d7, d8]
      have e9 : Ext wk4 w9 := (Ext.refl wk4).drew.trans hE
      clear d0 d1 d2 d3 d4 d5 d6 d7 d8
      clear hX hE
      generalize u 93 = t93z7
      clear u
      obtain ⟨wk8, rfl⟩ : ∃ wx : World, wx = w9 := ⟨_, rfl⟩
      replace HBy := Lib.hid (HBy.out.ext e9)
      replace HAy := Lib.hid (HAy.out.ext e9)
      replace HBa := Lib.hid (HBa.out.ext e9)
      replace HAa := Lib.hid (HAa.out.ext e9)
      replace HBb := Lib.hid (HBb.out.ext e9)
      replace HAb := Lib.hid (HAb.out.ext e9)
      replace HJ1 := Lib.hid (HJ1.out.ext e9)
      replace HE := Lib.hid (HE.out.trans (e9))
      clear e9
      go_wp2_with fail
      go_ret
      exact ⟨rfl, HE.out⟩
end Go.Proofs.Ytcmnlnamgnbemaa
