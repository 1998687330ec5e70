/-
  PLAIN LAW: what the reference's moved gathers is what build makes (layer 19).
-/
import Derived.Test.YtcmnlnamgnbemaaGather
import Derived.Test.YtcmnlnamgnbemaaTake
import Derived.Test.YtcmnlnamgnbemaaTransEq
namespace Go.Proofs.Ytcmnlnamgnbemaa
set_option linter.unusedSimpArgs false
set_option linter.unusedVariables false
open Go.RowKit

def addL : List Int → List Int → List Int
  | x :: r, y :: q => (x + y) :: addL r q
  | l, _ => l
theorem addL_length : ∀ (t b : List Int), (addL t b).length = t.length
  | [], _ => by unfold addL; rfl
  | _ :: _, [] => by unfold addL; rfl
  | x :: r, y :: q => by rw [addL, List.length_cons, List.length_cons, addL_length r q]
/-- Where element number i of the result comes from; -1: the fill element. -/
def fromAt (s t b : List Int) (i : Int) : Int := if (offV s (addL (idxOf t i) b)).2 = true then (offV s (addL (idxOf t i) b)).1 else -1
def fromL (s t b : List Int) (m : Nat) : List Int := (List.range m).map fun (i : Nat) => fromAt s t b i
theorem fromL_length (s t b : List Int) (m : Nat) : (fromL s t b m).length = m := by simp [fromL]
theorem fromL_succ (s t b : List Int) (m : Nat) : fromL s t b (m + 1) = fromL s t b m ++ [fromAt s t b m] := by simp [fromL, List.range_succ]
/-- What the reference's moved returns. -/
def rmovedV (s t b : List Int) (y : Arr) : Arr × Int :=
  if shapeRight t = false then (Arr.zero, 21) else if rightV (gatherV t (fromL s t b (shapeSize t).toNat) y) ≠ 0 then (Arr.zero, 21) else (gatherV t (fromL s t b (shapeSize t).toNat) y, 0)
def byL (f : Int → Int → Int) : List Int → List Int → List Int
  | n :: r, y :: q => f n y :: byL f r q
  | _, ys => List.replicate ys.length 0
theorem byL_nil (f : Int → Int → Int) (ys : List Int) : byL f [] ys = List.replicate ys.length 0 := by unfold byL; rfl
theorem byL_length (f : Int → Int → Int) : ∀ (l ys : List Int), (byL f l ys).length = ys.length
  | [], ys => by rw [byL_nil]; simp
  | n :: r, [] => by unfold byL; rfl
  | n :: r, y :: q => by rw [byL, List.length_cons, List.length_cons, byL_length f r q]
theorem byL_getD (f : Int → Int → Int) : ∀ (l ys : List Int) (j : Nat), j < ys.length → (byL f l ys).getD j 0 = if j < l.length then f (l.getD j 0) (ys.getD j 0) else 0
  | [], ys, j, h => by rw [byL_nil]; simp [List.getD, h]
  | n :: r, [], j, h => by simp at h
  | n :: r, y :: q, 0, _ => by simp [byL]
  | n :: r, y :: q, j + 1, h => by
    rw [byL, List.getD_cons_succ, byL_getD f r q j (by simpa using h)]
    simp
theorem byL_set (f : Int → Int → Int) : ∀ (l ys : List Int) (q : Nat), q < l.length → l.length ≤ ys.length → (byL f (l.take q) ys).set q (f (l.getD q 0) (ys.getD q 0)) = byL f (l.take (q + 1)) ys
  | [], _, _, h, _ => by simp at h
  | n :: r, [], _, _, h => by simp at h
  | n :: r, y :: p, 0, _, _ => by simp [byL, byL_nil, List.replicate_succ]
  | n :: r, y :: p, q + 1, h, hl => by
    rw [List.take_succ_cons, List.take_succ_cons, byL, byL, List.set_cons_succ, List.getD_cons_succ, List.getD_cons_succ, byL_set f r p q (by simpa using h) (by simpa using hl)]
theorem byL_at (f : Int → Int → Int) (l ys : List Int) (q : Nat) (hq : q < l.length) (hl : l.length ≤ ys.length) : (byL f (l.take q) ys).getD q 0 = 0 := by
  rw [byL_getD _ _ _ _ (by omega), if_neg (by rw [List.length_take]; omega)]
def byTake (n y : Int) : Int := if n < 0 then y - max n (-n) else 0
def byDrop (n _y : Int) : Int := max 0 n

theorem src_off (fr : Nat → Int → Int) : ∀ (s t b : List Int) (a : Nat) (acc : Int), t.length = s.length → b.length = s.length → (∀ j, j < s.length → fr (a + j) (t.getD j 0) = t.getD j 0 + b.getD j 0) → srcGo fr a s t acc = offGo acc s (addL t b)
  | [], t, b, a, acc, h1, h2, h => by
    obtain rfl : t = [] := List.eq_nil_of_length_eq_zero h1
    unfold srcGo addL offGo
    rfl
  | y :: q, [], b, a, acc, h1, h2, h => by simp at h1
  | y :: q, i :: r, [], a, acc, h1, h2, h => by simp at h2
  | y :: q, i :: r, c :: d, a, acc, h1, h2, h => by
    have e0 := h 0 (by simp)
    simp only [Nat.add_zero, List.getD_cons_zero] at e0
    rw [srcGo, addL, offGo, e0, src_off fr q r d (a + 1) _ (by simpa using h1) (by simpa using h2) (fun j hj => by
      have := h (j + 1) (by simpa using hj)
      rw [List.getD_cons_succ, List.getD_cons_succ, show a + (j + 1) = a + 1 + j by omega] at this
      exact this)]

theorem bld_gather (fr : Nat → Int → Int) (s t b ys : List Int) (k : Int) (n : List Int) (it : List Arr) (hts : t.length = s.length) (hbs : b.length = s.length) (hs8 : s.length ≤ 8) (hsr : rightGo 1 s = true)
    (hf : ∀ j (i : Int), j < s.length → fr j i = i + b.getD j 0) : bldV t fr (.mk k s n it) = gatherV t (fromL s t b (shapeSize t).toNat) (.mk k ys n it) := by
  have hshr : shapeRight s = true := by simp [shapeRight, hs8, hsr]
  have key : ∀ i : Nat, (∃ v, srcGo fr 0 s (idxOf t i) 0 = some v ∧ 0 ≤ v ∧ fromAt s t b i = v) ∨ (srcGo fr 0 s (idxOf t i) 0 = none ∧ fromAt s t b i = -1) := by
    intro i
    have hil : (idxOf t i).length = s.length := by rw [idxOf_length, hts]
    have e := src_off fr s (idxOf t i) b 0 0 hil hbs (fun j hj => by rw [Nat.zero_add]; exact hf j _ hj)
    have hc : ¬ (shapeRight s = false ∨ (addL (idxOf t i) b).length ≠ s.length) := by
      rw [hshr, addL_length, hil]; simp
    cases hsrc : srcGo fr 0 s (idxOf t i) 0 with
    | none =>
      right
      refine ⟨rfl, ?_⟩
      unfold fromAt offV
      rw [if_neg hc, ← e, hsrc]
      rfl
    | some v =>
      left
      have hb := srcGo_bd fr s (idxOf t i) 0 0 1 v (by omega) (by omega) hsr hsrc hil
      refine ⟨v, rfl, hb.1, ?_⟩
      unfold fromAt offV
      rw [if_neg hc, ← e, hsrc]
      rfl
  show Arr.mk k t (if k = 3 then [] else movedGo (bldN k s n fr) t (shapeSize t).toNat (List.replicate t.length 0)) (if k = 3 then movedGo (bldI s it fr) t (shapeSize t).toNat (List.replicate t.length 0) else []) = Arr.mk k t (if k = 3 then [] else (fromL s t b (shapeSize t).toNat).map (gN k n)) (if k = 3 then (fromL s t b (shapeSize t).toNat).map (gI it) else [])
  congr 1
  · split
    · rfl
    · rw [movedGo_all, fromL, List.map_map]
      apply List.map_congr_left
      intro i _
      simp only [Function.comp]
      unfold bldN gN
      rcases key i with ⟨v, h1, h2, h3⟩ | ⟨h1, h3⟩
      · rw [h1, h3, if_neg (by omega)]
      · rw [h1, h3, if_pos (by omega)]
  · split
    · rw [movedGo_all, fromL, List.map_map]
      apply List.map_congr_left
      intro i _
      simp only [Function.comp]
      unfold bldI gI
      rcases key i with ⟨v, h1, h2, h3⟩ | ⟨h1, h3⟩
      · rw [h1, h3, if_neg (by omega)]
      · rw [h1, h3, if_pos (by omega)]
    · rfl

def rtakeV (x y : Arr) : Arr × Int := if tkErr x y ≠ 0 then (Arr.zero, tkErr x y) else rmovedV (tkS (tkY (tkN x).length y)) (withL takeF (tkN x) (tkS (tkY (tkN x).length y))) (byL byTake (tkN x) (tkS (tkY (tkN x).length y))) y
def rdropV (x y : Arr) : Arr × Int := if tkErr x y ≠ 0 then (Arr.zero, tkErr x y) else rmovedV (tkS (tkY (tkN x).length y)) (withL dropF (tkN x) (tkS (tkY (tkN x).length y))) (byL byDrop (tkN x) (tkS (tkY (tkN x).length y))) y

theorem rmoved_build (fr : Nat → Int → Int) (s t b ys : List Int) (k : Int) (n : List Int) (it : List Arr) (hts : t.length = s.length) (hbs : b.length = s.length) (hs8 : s.length ≤ 8) (hsr : rightGo 1 s = true)
    (hf : ∀ j (i : Int), j < s.length → fr j i = i + b.getD j 0) : rmovedV s t b (.mk k ys n it) = buildV t fr (.mk k s n it) := by
  unfold rmovedV buildV
  rw [bld_gather fr s t b ys k n it hts hbs hs8 hsr hf]

theorem rtake_eq (x y : Arr) : rtakeV x y = takeV x y := by
  obtain ⟨kx, sx, nx, ix⟩ := x
  obtain ⟨ky, sy, ny, iy⟩ := y
  unfold rtakeV takeV
  by_cases h : tkErr (.mk kx sx nx ix) (.mk ky sy ny iy) = 0
  · rw [if_neg (by simpa using h), if_neg (by simpa using h)]
    have hz : ∃ kz sz nz iz, tkY nx.length (.mk ky sy ny iy) = .mk kz sz nz iz ∧ kz = ky ∧ nz = ny ∧ iz = iy := ⟨_, _, _, _, rfl, rfl, rfl, rfl⟩
    obtain ⟨kz, sz, nz, iz, hz, rfl, rfl, rfl⟩ := hz
    obtain ⟨h1, h2, h3, h4, h5, h6, h7⟩ := tkY_parts h hz
    show rmovedV (tkS (tkY nx.length _)) (withL takeF nx (tkS (tkY nx.length _))) (byL byTake nx (tkS (tkY nx.length _))) _ = buildV (withL takeF nx (tkS (tkY nx.length _))) (takeFr nx (tkS (tkY nx.length _))) (tkY nx.length _)
    rw [hz]
    refine rmoved_build _ sz _ _ sy kz nz iz (withL_len _ _ _) (byL_length _ _ _) h2 h3 fun j i hj => ?_
    show _ = i + (byL _ nx sz).getD j 0
    rw [byL_getD _ _ _ _ hj]
    unfold takeFr byTake
    show (if j < nx.length ∧ nx.getD j 0 < 0 then i + sz.getD j 0 + nx.getD j 0 else i) = _
    by_cases c1 : j < nx.length
    · by_cases c2 : nx.getD j 0 < 0
      · rw [if_pos ⟨c1, c2⟩, if_pos c1, if_pos c2]; omega
      · rw [if_neg (fun c => c2 c.2), if_pos c1, if_neg c2]; omega
    · rw [if_neg (fun c => c1 c.1), if_neg c1]; omega
  · rw [if_pos h, if_pos h]

theorem rdrop_eq (x y : Arr) : rdropV x y = dropV x y := by
  obtain ⟨kx, sx, nx, ix⟩ := x
  obtain ⟨ky, sy, ny, iy⟩ := y
  unfold rdropV dropV
  by_cases h : tkErr (.mk kx sx nx ix) (.mk ky sy ny iy) = 0
  · rw [if_neg (by simpa using h), if_neg (by simpa using h)]
    have hz : ∃ kz sz nz iz, tkY nx.length (.mk ky sy ny iy) = .mk kz sz nz iz ∧ kz = ky ∧ nz = ny ∧ iz = iy := ⟨_, _, _, _, rfl, rfl, rfl, rfl⟩
    obtain ⟨kz, sz, nz, iz, hz, rfl, rfl, rfl⟩ := hz
    obtain ⟨h1, h2, h3, h4, h5, h6, h7⟩ := tkY_parts h hz
    show rmovedV (tkS (tkY nx.length _)) (withL dropF nx (tkS (tkY nx.length _))) (byL byDrop nx (tkS (tkY nx.length _))) _ = buildV (withL dropF nx (tkS (tkY nx.length _))) (dropFr nx) (tkY nx.length _)
    rw [hz]
    refine rmoved_build _ sz _ _ sy kz nz iz (withL_len _ _ _) (byL_length _ _ _) h2 h3 fun j i hj => ?_
    show _ = i + (byL _ nx sz).getD j 0
    rw [byL_getD _ _ _ _ hj]
    unfold dropFr byDrop
    by_cases c1 : j < nx.length
    · by_cases c2 : 0 < nx.getD j 0
      · rw [if_pos ⟨c1, c2⟩, if_pos c1]; omega
      · rw [if_neg (fun c => c2 c.2), if_pos c1]; omega
    · rw [if_neg (fun c => c1 c.1), if_neg c1]; omega
  · rw [if_pos h, if_pos h]
end Go.Proofs.Ytcmnlnamgnbemaa
