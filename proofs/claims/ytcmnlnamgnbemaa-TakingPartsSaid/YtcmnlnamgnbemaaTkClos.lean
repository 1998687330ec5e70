/-
  THE WALKS of the functions inside Take and Drop; the index of build in an array of eight.
-/
import Derived.Test.YtcmnlnamgnbemaaTk1
import Derived.Test.YtcmnlnamgnbemaaTransLaw
import Derived.Test.YtcmnlnamgnbemaaClone
namespace Go.Proofs.Ytcmnlnamgnbemaa
set_option linter.unusedSimpArgs false
set_option linter.unusedVariables false
open Go.RowKit

/-- Where position i of an axis comes from. -/
def takeFr (l ys : List Int) (a : Nat) (i : Int) : Int := if a < l.length ∧ l.getD a 0 < 0 then i + ys.getD a 0 + l.getD a 0 else i
def dropFr (l : List Int) (a : Nat) (i : Int) : Int := if a < l.length ∧ 0 < l.getD a 0 then i + l.getD a 0 else i

set_option maxHeartbeats 1000000 in
theorem takeFn_any (F G : Nat → Prop) (bc bY a c1 c2 : Nat) (p1 p2 : Option Addr) (l ys : List Int) (z0 z2 z3 : Value) (i : Int) (w : World) (hc : w.cell? ⟨bc, 0, none⟩ = some (.slice p1 l.length c1)) (hB : Box4 w bY z0 (.slice p2 ys.length c2) z2 z3) (hl : IntsAt F w p1 l) (hy : IntsAt G w p2 ys)
    (hln : l.length ≤ 8) (hyn : ys.length ≤ 8) (ha : a < ys.length) (h0 : 0 ≤ i) (h1 : i ≤ 65536) (hb : ∀ x ∈ l, -4611686018427387904 ≤ x ∧ x ≤ 4611686018427387904) (hyb : ∀ x ∈ ys, 0 ≤ x ∧ x ≤ 65536) :
    Calls Try.prog 70 #[.int .i64 a, .int .i64 i, .pointer (some ⟨bc, 0, none⟩), .pointer (some ⟨bY, 0, none⟩)] w fun e w' => e = .returned (.int .i64 (takeFr l ys a i)) ∧ Ext w w' := by
  obtain ⟨s0, s1, s2, s3⟩ := hB.cell
  by_cases hal : a < l.length
  · obtain ⟨b, off, rfl, ax, _, _⟩ := hl.get hal
    have hbx := hb (l.getD a 0) (by simp [List.getD, hal])
    have hfr : takeFr l ys a i = if l.getD a 0 < 0 then i + ys.getD a 0 + l.getD a 0 else i := by
      unfold takeFr
      by_cases h : l.getD a 0 < 0
      · rw [if_pos ⟨hal, h⟩, if_pos h]
      · rw [if_neg (fun hh => h hh.2), if_neg h]
    obtain ⟨b2, off2, rfl, ay, _, _⟩ := hy.get ha
    have hyx := hyb (ys.getD a 0) (by simp [List.getD, ha])
    rw [hfr]
    clear hfr hl hy hb hyb hB
    generalize l.getD a 0 = x at *
    generalize ys.getD a 0 = y at *
    have hal' : (a : Int) < l.length := by omega
    have hay' : (a : Int) < ys.length := by omega
    by_cases hx : x < 0
    · rw [if_pos hx]
      have w1 : IntKind.i64.wrap (i + y) = i + y := IntWalk.i64_in _ (by omega)
      have w2 : IntKind.i64.wrap (i + y + x) = i + y + x := IntWalk.i64_in _ (by omega)
      go_enter Try.func70, Try.ntmps70
      go_wp2_with fail
      go_quiet (fail)
      go_wp2_with fail
      go_ret
      exact ⟨rfl, (Ext.refl _).drewN _⟩
    · rw [if_neg hx]
      go_enter Try.func70, Try.ntmps70
      go_wp2_with fail
      go_ret
      exact ⟨rfl, Ext.refl _⟩
  · have hfr : takeFr l ys a i = i := by
      unfold takeFr
      rw [if_neg (fun h => hal h.1)]
    have hal' : ¬ (a : Int) < l.length := by omega
    rw [hfr]
    clear hfr hl hy hb hyb hB
    go_enter Try.func70, Try.ntmps70
    go_wp2_with fail
    go_ret
    exact ⟨rfl, Ext.refl _⟩

set_option maxHeartbeats 1000000 in
theorem dropFn_any (F : Nat → Prop) (bc a c1 : Nat) (p1 : Option Addr) (l : List Int) (i : Int) (w : World) (hc : w.cell? ⟨bc, 0, none⟩ = some (.slice p1 l.length c1)) (hl : IntsAt F w p1 l)
    (hln : l.length ≤ 8) (h0 : 0 ≤ i) (h1 : i ≤ 65536) (hb : ∀ x ∈ l, -4611686018427387904 ≤ x ∧ x ≤ 4611686018427387904) :
    Calls Try.prog 75 #[.int .i64 a, .int .i64 i, .pointer (some ⟨bc, 0, none⟩)] w fun e w' => e = .returned (.int .i64 (dropFr l a i)) ∧ Ext w w' := by
  by_cases hal : a < l.length
  · obtain ⟨b, off, rfl, ax, _, _⟩ := hl.get hal
    have hbx := hb (l.getD a 0) (by simp [List.getD, hal])
    have hfr : dropFr l a i = if 0 < l.getD a 0 then i + l.getD a 0 else i := by
      unfold dropFr
      by_cases h : 0 < l.getD a 0
      · rw [if_pos ⟨hal, h⟩, if_pos h]
      · rw [if_neg (fun hh => h hh.2), if_neg h]
    rw [hfr]
    clear hfr hl hb
    generalize l.getD a 0 = x at *
    have hal' : (a : Int) < l.length := by omega
    by_cases hx : 0 < x
    · rw [if_pos hx]
      go_enter Try.func75, Try.ntmps75
      go_wp2_with fail
      go_ret
      exact ⟨rfl, Ext.refl _⟩
    · rw [if_neg hx]
      go_enter Try.func75, Try.ntmps75
      go_wp2_with fail
      go_ret
      exact ⟨rfl, Ext.refl _⟩
  · have hfr : dropFr l a i = i := by
      unfold dropFr
      rw [if_neg (fun h => hal h.1)]
    have hal' : ¬ (a : Int) < l.length := by omega
    rw [hfr]
    clear hfr hl hb
    by_cases ha0 : a < 9223372036854775807
    · go_enter Try.func75, Try.ntmps75
      go_wp2_with fail
      go_ret
      exact ⟨rfl, Ext.refl _⟩
    · go_enter Try.func75, Try.ntmps75
      go_wp2_with fail
      go_ret
      exact ⟨rfl, Ext.refl _⟩

/-- Block g is an array of eight whose first places hold t. -/
def Idx8 (w : World) (g : Nat) (t : List Int) : Prop := ∃ z : List Int, (t ++ z).length = 8 ∧ w.heap[g]? = some (.cells ((t ++ z).map (Value.int .i64)).toArray 123 (0, 0))
theorem Idx8.cell {w : World} {g : Nat} {t : List Int} (h : Idx8 w g t) {j : Nat} (hj : j < t.length) : w.cell? ⟨g, j, none⟩ = some (.int .i64 (t.getD j 0)) := by
  obtain ⟨z, h1, h2⟩ := h
  rw [cell_of_row w g j _ _ _ h2]
  simp only [List.map_append, List.getD, List.getElem?_toArray]
  rw [List.getElem?_append_left (by simpa using hj)]
  simp [hj]
theorem Idx8.free {w : World} {g : Nat} {t : List Int} (h : Idx8 w g t) (o : Nat) : w.frozen? ⟨g, o, none⟩ = false := by
  obtain ⟨z, h1, h2⟩ := h
  exact frozen_of_row w g o _ _ h2
theorem Idx8.lt {w : World} {g : Nat} {t : List Int} (h : Idx8 w g t) : g < w.heap.size := by
  obtain ⟨z, h1, h2⟩ := h
  exact (Array.getElem?_eq_some_iff.1 h2).1
theorem Idx8.kept {w w' : World} {g : Nat} {t : List Int} (h : Idx8 w g t) (e : w'.heap[g]? = w.heap[g]?) : Idx8 w' g t := by
  obtain ⟨z, h1, h2⟩ := h
  exact ⟨z, h1, by rw [e]; exact h2⟩
theorem Idx8.ext {w w' : World} {g : Nat} {t : List Int} (h : Idx8 w g t) (e : Ext w w') : Idx8 w' g t := h.kept (e.block h.lt)
theorem Idx8.set {w : World} {g : Nat} {t : List Int} (h : Idx8 w g t) (j : Nat) (hj : j < t.length) (x : Int) : Idx8 (w.setCell ⟨g, j, none⟩ (.int .i64 x)) g (t.set j x) := by
  obtain ⟨z, h1, h2⟩ := h
  refine ⟨z, by simpa using h1, ?_⟩
  rw [heap_setCell_at h2]
  simp only [List.map_append, List.setIfInBounds_toArray, List.map_set]
  rw [List.set_append_left _ _ (by simpa using hj)]
theorem Idx8.made {w : World} (k : Nat) (hk : k ≤ 8) : Idx8 (w.alloc (.cells #[.int .i64 0, .int .i64 0, .int .i64 0, .int .i64 0, .int .i64 0, .int .i64 0, .int .i64 0, .int .i64 0] 123)) w.heap.size (List.replicate k 0) := by
  refine ⟨List.replicate (8 - k) 0, by simp; omega, ?_⟩
  rw [List.replicate_append_replicate, show k + (8 - k) = 8 by omega, heap_alloc_new]
  rfl
theorem Idx8.ints {w : World} {g : Nat} {t : List Int} (h : Idx8 w g t) (hw : ∀ x ∈ t, -9223372036854775808 ≤ x ∧ x ≤ 9223372036854775807) : IntsAt (fun x => x = g) w (some ⟨g, 0, none⟩) t := fun i hi =>
  ⟨g, 0, rfl, rfl, by rw [Nat.zero_add]; exact h.cell hi, hw _ (by simp [List.getD, hi])⟩

/-- The place that build copies from; none: the fill element. -/
def srcGo (fr : Nat → Int → Int) : Nat → List Int → List Int → Int → Option Int
  | a, y :: q, i :: r, acc => if fr a i < 0 ∨ y ≤ fr a i then none else srcGo fr (a + 1) q r (acc * y + fr a i)
  | _, _, _, acc => some acc
def fillN (k : Int) : Int := if k = 2 then 32 else 0
def fillI : Arr := .mk 1 [0] [] []
def bldN (k : Int) (ys n : List Int) (fr : Nat → Int → Int) (t : List Int) : Int := match srcGo fr 0 ys t 0 with
  | none => fillN k
  | some v => n.getD v.toNat 0
def bldI (ys : List Int) (it : List Arr) (fr : Nat → Int → Int) (t : List Int) : Arr := match srcGo fr 0 ys t 0 with
  | none => fillI
  | some v => it.getD v.toNat default
theorem srcGo_bd (fr : Nat → Int → Int) : ∀ (ys t : List Int) (a : Nat) (acc p v : Int), 0 ≤ acc → acc < p → rightGo p ys = true → srcGo fr a ys t acc = some v → t.length = ys.length → 0 ≤ v ∧ v < prodA p ys
  | [], [], a, acc, p, v, h0, h1, _, h, _ => by
    unfold srcGo at h
    cases h
    rw [prodA]; exact ⟨h0, h1⟩
  | [], _ :: _, _, _, _, _, _, _, _, _, hl => by simp at hl
  | _ :: _, [], _, _, _, _, _, _, _, _, hl => by simp at hl
  | y :: q, i :: r, a, acc, p, v, h0, h1, hr, h, hl => by
    rw [srcGo] at h
    split at h
    · cases h
    · rename_i hc
      have hy : y ≠ 0 := by omega
      obtain ⟨a1, a2, a3, a4⟩ := rightGo_cons hr hy
      have e1 : acc * y ≤ (p - 1) * y := Int.mul_le_mul_of_nonneg_right (by omega) (by omega)
      have e2 : 0 ≤ acc * y := Int.mul_nonneg h0 (by omega)
      rw [Int.sub_mul, Int.one_mul] at e1
      rw [prodA, if_neg hy]
      exact srcGo_bd fr q r (a + 1) _ _ v (by omega) (by omega) a4 h (by simpa using hl)
/-- The array that build makes. -/
def bldV (s : List Int) (fr : Nat → Int → Int) : Arr → Arr
  | .mk k ys n it => .mk k s (if k = 3 then [] else movedGo (bldN k ys n fr) s (shapeSize s).toNat (List.replicate s.length 0)) (if k = 3 then movedGo (bldI ys it fr) s (shapeSize s).toNat (List.replicate s.length 0) else [])
def buildV (s : List Int) (fr : Nat → Int → Int) (y : Arr) : Arr × Int :=
  if shapeRight s = false then (Arr.zero, 21) else if rightV (bldV s fr y) ≠ 0 then (Arr.zero, 21) else (bldV s fr y, 0)
end Go.Proofs.Ytcmnlnamgnbemaa
