/-
  PLAIN GROUND: the dimensions of a result fit the axis list; a right array has as many elements as its shape says; moved as a function.
-/
import Derived.Test.YtcmnlnamgnbemaaWrong
namespace Go.Proofs.Ytcmnlnamgnbemaa
set_option linter.unusedSimpArgs false
set_option linter.unusedVariables false

theorem padTo_getD_lt {out : List Int} {n i : Nat} (h : i < out.length) : (padTo out n).getD i 0 = out.getD i 0 := by
  unfold padTo
  simp [List.getD, List.getElem?_append_left h]

theorem dimsPut_at (out : List Int) (a f : Int) (hf : 0 ≤ f) : 0 ≤ (dimsPut out a f).getD a.toNat 0 ∧ (dimsPut out a f).getD a.toNat 0 ≤ f := by
  have hl : a.toNat < (padTo out (a.toNat + 1)).length := by rw [padTo_length]; omega
  unfold dimsPut
  split
  · rw [getD_set hl, if_pos rfl]; omega
  · omega
theorem dimsPut_keep {out : List Int} {a f c : Int} {i : Nat} (hf : 0 ≤ f) (hi : i < out.length) (h : 0 ≤ out.getD i 0 ∧ out.getD i 0 ≤ c) : 0 ≤ (dimsPut out a f).getD i 0 ∧ (dimsPut out a f).getD i 0 ≤ c := by
  have hl : a.toNat < (padTo out (a.toNat + 1)).length := by rw [padTo_length]; omega
  have hp := padTo_getD_lt (n := a.toNat + 1) hi
  unfold dimsPut
  split
  · rename_i hc
    rw [getD_set hl]
    split
    · rename_i he
      subst he
      rw [hp] at hc
      omega
    · rw [hp]; exact h
  · rw [hp]; exact h
theorem dimsGo_keep : ∀ (axes ys out : List Int) (i : Nat) (c : Int), (∀ y ∈ ys, 0 ≤ y) → i < out.length → 0 ≤ out.getD i 0 ∧ out.getD i 0 ≤ c →
    i < (dimsGo axes ys out).length ∧ 0 ≤ (dimsGo axes ys out).getD i 0 ∧ (dimsGo axes ys out).getD i 0 ≤ c
  | [], _, _, _, _, _, hi, h => ⟨hi, h⟩
  | _ :: _, [], _, _, _, _, hi, h => ⟨hi, h⟩
  | a :: r, f :: q, out, i, c, hy, hi, h => by
    rw [dimsGo]
    exact dimsGo_keep r q _ i c (fun y hy' => hy y (by simp [hy'])) (by rw [dimsPut_length]; omega) (dimsPut_keep (hy f (by simp)) hi h)
theorem dimsGo_fit : ∀ (axes ys out : List Int), (∀ y ∈ ys, 0 ≤ y) → axes.length = ys.length → ∀ j, j < axes.length →
    (axes.getD j 0).toNat < (dimsGo axes ys out).length ∧ 0 ≤ (dimsGo axes ys out).getD (axes.getD j 0).toNat 0 ∧ (dimsGo axes ys out).getD (axes.getD j 0).toNat 0 ≤ ys.getD j 0
  | [], _, _, _, _, j, hj => by simp at hj
  | _ :: _, [], _, _, hl, _, _ => by simp at hl
  | a :: r, f :: q, out, hy, hl, 0, _ => by
    rw [dimsGo]
    exact dimsGo_keep r q _ a.toNat f (fun y hy' => hy y (by simp [hy'])) (by rw [dimsPut_length]; omega) (dimsPut_at out a f (hy f (by simp)))
  | a :: r, f :: q, out, hy, hl, j + 1, hj => by
    rw [dimsGo]
    exact dimsGo_fit r q _ (fun y hy' => hy y (by simp [hy'])) (by simpa using hl) j (by simpa using hj)
theorem dims_fit {axes ys : List Int} (hl : axes.length = ys.length) (ha : ∀ j, j < axes.length → 0 ≤ axes.getD j 0) (hy : ∀ y ∈ ys, 0 ≤ y) : AxesFit axes ys (dimsGo axes ys []) :=
  ⟨hl, fun i hi => by
    have := dimsGo_fit axes ys [] hy hl i hi
    exact ⟨ha i hi, this.1, this.2.2⟩⟩

theorem dimsGo_len_le : ∀ (axes ys out : List Int) (R : Nat), (∀ j, j < axes.length → 0 ≤ axes.getD j 0 ∧ axes.getD j 0 < R) → out.length ≤ R → (dimsGo axes ys out).length ≤ R
  | [], _, _, _, _, h => h
  | _ :: _, [], _, _, _, h => h
  | a :: r, f :: q, out, R, ha, h => by
    rw [dimsGo]
    refine dimsGo_len_le r q _ R (fun j hj => by have := ha (j + 1) (by simpa using hj); simpa using this) ?_
    rw [dimsPut_length]
    have := ha 0 (by simp)
    simp at this
    omega

/-- What it means to be right. -/
theorem right_parts {k : Int} {s n : List Int} {it : List Arr} (h : rightV (.mk k s n it) = 0) :
    (k = 1 ∨ k = 2 ∨ k = 3) ∧ s.length ≤ 8 ∧ rightGo 1 s = true ∧ (k ≠ 3 → it = [] ∧ (n.length : Int) = shapeSize s) ∧ (k = 3 → n = [] ∧ (it.length : Int) = shapeSize s) := by
  have hf : formV (.mk k s n it) = 0 := by
    unfold rightV visitV at h
    by_cases h1 : formV (.mk k s n it) = 0
    · exact h1
    · rw [if_pos h1] at h; exact absurd h h1
  have key : ∀ (a b : Nat), formOf k s a b = 0 → (k = 1 ∨ k = 2 ∨ k = 3) ∧ s.length ≤ 8 ∧ rightGo 1 s = true ∧ (a : Int) = shapeSize s ∧ b = 0 := by
    intro a b hab
    unfold formOf at hab
    split at hab
    · cases hab
    · rename_i h1
      split at hab
      · cases hab
      · split at hab
        · cases hab
        · split at hab
          · cases hab
          · rename_i h2 h3 h4
            split at hab
            · cases hab
            · rename_i h5
              split at hab
              · cases hab
              · rename_i h6
                have h7 := shapeRight_go (by simpa using h4)
                refine ⟨by omega, h7.2, h7.1, ?_, by omega⟩
                simpa using h5
  have hf2 : (if k = 3 then formOf k s it.length n.length else formOf k s n.length it.length) = 0 := hf
  split at hf2
  · rename_i h3
    obtain ⟨h1, h2, h4, h5, h6⟩ := key _ _ hf2
    exact ⟨h1, h2, h4, fun h => absurd h3 h, fun _ => ⟨List.length_eq_zero_iff.1 h6, h5⟩⟩
  · rename_i h3
    obtain ⟨h1, h2, h4, h5, h6⟩ := key _ _ hf2
    exact ⟨h1, h2, h4, fun _ => ⟨List.length_eq_zero_iff.1 h6, h5⟩, fun h => absurd h h3⟩
theorem size_prod {s : List Int} {m : Int} (h8 : s.length ≤ 8) (hr : rightGo 1 s = true) (h : m = shapeSize s) (h0 : ∀ j, j < s.length → s.getD j 0 ≠ 0) : prodGo 1 s = m := by
  have hz : ¬ (s.any fun d => 0 == d) = true := by
    intro ha
    rw [List.any_eq_true] at ha
    obtain ⟨x, hx, he⟩ := ha
    obtain ⟨j, hj, rfl⟩ := List.mem_iff_getElem.1 hx
    exact h0 j hj (by simpa [List.getD, hj] using (beq_iff_eq.1 he).symm)
  rw [h, shapeSize, if_pos (by simp [shapeRight, h8, hr]), volOf, if_neg hz]

/-- moved, as a function. -/
def movedV (axes : List Int) : Arr → List Int → Arr
  | .mk k ys n it, s => if (k == 3) = true then .mk k s [] (movedGo (fun t => it.getD (atGo axes ys t 0).toNat default) s (shapeSize s).toNat (List.replicate s.length 0))
      else .mk k s (movedGo (fun t => n.getD (atGo axes ys t 0).toNat 0) s (shapeSize s).toNat (List.replicate s.length 0)) []

theorem moved_any (F G H : Nat → Prop) (p1 p2 : Option Addr) (cc1 cc2 : Nat) (axes s : List Int) (y : Arr) (d0 d1 d2 d3 : Value) (w : World) (hax : IntsAt F w p1 axes) (hs : IntsAt G w p2 s) (hsk : SlOk s.length cc2) (hy : ArrAt H w y d0 d1 d2 d3) (hla : axes.length ≤ lenMax)
    (hfit : ∀ k ys n it, y = .mk k ys n it → AxesFit axes ys s) (hr : rightV y = 0) :
    Calls Try.prog 64 #[.slice p1 axes.length cc1, .agg #[d0, d1, d2, d3], .slice p2 s.length cc2] w fun e w' =>
      ∃ c0 c1 c2 c3, e = .returned (.agg #[c0, c1, c2, c3]) ∧ ArrAt (fun b => w.heap.size ≤ b ∨ G b) w' (movedV axes y s) c0 c1 c2 c3 ∧ Ext w w' := by
  obtain ⟨k, ys, n, it⟩ := y
  have hf := hfit _ _ _ _ rfl
  obtain ⟨h1, h2, h3, h4, h5⟩ := right_parts hr
  by_cases hk : (k == 3) = true
  · have := movedI_any F G H p1 p2 cc1 cc2 axes s ys k n it d0 d1 d2 d3 w hk hax hs hsk hy hla hf h3 (fun h0 => size_prod h2 h3 (h5 (by simpa using hk)).2 h0)
    rw [movedV, if_pos hk]
    exact this
  · have := movedN_any F G H p1 p2 cc1 cc2 axes s ys k n it d0 d1 d2 d3 w (Bool.eq_false_iff.2 hk) hax hs hsk hy hla hf h3 (fun h0 => size_prod h2 h3 (h4 (by simpa using hk)).2 h0)
    rw [movedV, if_neg hk]
    exact this
end Go.Proofs.Ytcmnlnamgnbemaa
