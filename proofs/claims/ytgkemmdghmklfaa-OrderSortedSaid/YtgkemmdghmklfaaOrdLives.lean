/-
  THE WALK of law06.lives: the chapter's examples; contracts over readings. (Printed by gen_ordlives.py.)
-/
import Derived.Test.YtgkemmdghmklfaaOLs
import Derived.Test.YtgkemmdghmklfaaSorted
import Derived.Test.YtgkemmdghmklfaaROrdB
import Derived.Test.YtgkemmdghmklfaaHelp6
namespace Go.Proofs.Ytgkemmdghmklfaa
set_option linter.unusedSimpArgs false
set_option linter.unusedVariables false
open Go.RowKit

theorem o6ints_rd {X : Nat → Prop} {w : World} {l : List Int} {v : Value} (h : RdIX X w l v) (hX : ∀ b, X b → b < w.heap.size) : Calls Try.prog 99 #[v] w fun e w' => ∃ x, e = .returned x ∧ RdX X w' (vecV l) x ∧ Ext w w' := by
  obtain ⟨p, c, rfl, hk, hi⟩ := h
  refine (o6ints_any _ p c l w hi hk).mono ?_
  rintro e w' ⟨e0, e1, e2, e3, rfl, hA, hE⟩
  exact ⟨_, rfl, RdX.new hA (fun b hb _ => hb.imp id (fun h => h.2)) hX, hE⟩
theorem ocmp_rd {w : World} {a b : Arr} {v1 v2 : Value} {n : Int} (ex : ocmpV a b = n) (h1 : Rd w a v1) (h2 : Rd w b v2) : Calls Try.prog 52 #[v1, v2] w fun e w' => e = .returned (.int .i64 n) ∧ Ext w w' := by
  obtain ⟨F, c0, c1, c2, c3, rfl, hA⟩ := h1
  obtain ⟨G, d0, d1, d2, d3, rfl, hB⟩ := h2
  rw [← ex]
  exact ocompare_any F G a b _ _ _ _ _ _ _ _ w hA hB
theorem oless_rd {w : World} {a b : Arr} {v1 v2 : Value} {n : Int} (ex : ocmpV a b = n) (h1 : Rd w a v1) (h2 : Rd w b v2) : Calls Try.prog 53 #[v1, v2] w fun e w' => e = .returned (.bool (decide (n < 0))) ∧ Ext w w' := by
  obtain ⟨F, c0, c1, c2, c3, rfl, hA⟩ := h1
  obtain ⟨G, d0, d1, d2, d3, rfl, hB⟩ := h2
  rw [← ex]
  exact oless_any F G a b _ _ _ _ _ _ _ _ w hA hB
theorem rocmp_rd {w : World} {a b : Arr} {v1 v2 : Value} {n : Int} (ex : ocmpV a b = n) (h1 : Rd w a v1) (h2 : Rd w b v2) : Calls Try.prog 49 #[v1, v2] w fun e w' => e = .returned (.int .i64 n) ∧ Ext w w' := by
  obtain ⟨F, c0, c1, c2, c3, rfl, hA⟩ := h1
  obtain ⟨G, d0, d1, d2, d3, rfl, hB⟩ := h2
  rw [← ex]
  exact rocompare_any F G a b _ _ _ _ _ _ _ _ w hA hB
theorem roless_rd {w : World} {a b : Arr} {v1 v2 : Value} {n : Int} (ex : ocmpV a b = n) (h1 : Rd w a v1) (h2 : Rd w b v2) : Calls Try.prog 54 #[v1, v2] w fun e w' => e = .returned (.bool (decide (n < 0))) ∧ Ext w w' := by
  obtain ⟨F, c0, c1, c2, c3, rfl, hA⟩ := h1
  obtain ⟨G, d0, d1, d2, d3, rfl, hB⟩ := h2
  rw [← ex]
  exact roless_any F G a b _ _ _ _ _ _ _ _ w hA hB

theorem lit_arr2 (w : World) (k : Int) (s n : List Int) (o : Obj) (hk : -9223372036854775808 ≤ k ∧ k ≤ 9223372036854775807) (h1 : s.length ≤ 100) (h2 : n.length ≤ 100) (b1 : ∀ x ∈ s, -9223372036854775808 ≤ x ∧ x ≤ 9223372036854775807) (b2 : ∀ x ∈ n, -9223372036854775808 ≤ x ∧ x ≤ 9223372036854775807) :
    ArrAt (fun _ => True) (((w.alloc (.cells (s.map (Value.int .i64)).toArray 3)).alloc (.cells (n.map (Value.int .i64)).toArray 3)).alloc o) (.mk k s n []) (.int .i64 k) (.slice (some ⟨w.heap.size, 0, none⟩) s.length s.length) (.slice (some ⟨w.heap.size + 1, 0, none⟩) n.length n.length) (.slice none 0 0) := by
  unfold ArrAt
  refine ⟨rfl, hk, ⟨_, _, rfl, ⟨Nat.le_refl _, by omega, by omega⟩, ?_⟩, ⟨_, _, rfl, ⟨Nat.le_refl _, by omega, by omega⟩, ?_⟩, nilA _ _⟩
  · exact (((rowI_new w s).ints b1).mono (G := fun _ => True) (fun b _ _ => ⟨trivial, rfl⟩)).ext (((Ext.refl _).alloc _).alloc _)
  · have h := (rowI_new (w.alloc (.cells (s.map (Value.int .i64)).toArray 3)) n).ints b2
    rw [World.size_alloc] at h
    exact (h.mono (G := fun _ => True) (fun b _ _ => ⟨trivial, rfl⟩)).ext ((Ext.refl _).alloc _)
theorem lit_arr1 (w : World) (k : Int) (s : List Int) (o : Obj) (hk : -9223372036854775808 ≤ k ∧ k ≤ 9223372036854775807) (h1 : s.length ≤ 100) (b1 : ∀ x ∈ s, -9223372036854775808 ≤ x ∧ x ≤ 9223372036854775807) :
    ArrAt (fun _ => True) ((w.alloc (.cells (s.map (Value.int .i64)).toArray 3)).alloc o) (.mk k s [] []) (.int .i64 k) (.slice (some ⟨w.heap.size, 0, none⟩) s.length s.length) (.slice none 0 0) (.slice none 0 0) := by
  unfold ArrAt
  exact ⟨rfl, hk, ⟨_, _, rfl, ⟨Nat.le_refl _, by omega, by omega⟩, (((rowI_new w s).ints b1).mono (G := fun _ => True) (fun b _ _ => ⟨trivial, rfl⟩)).ext ((Ext.refl _).alloc _)⟩, nilI _ _, nilA _ _⟩
theorem items4 {F : Nat → Prop} {w : World} (T : TypeId) {t1 t2 t3 t4 : Arr} {a0 a1 a2 a3 b0 b1 b2 b3 c0 c1 c2 c3 d0 d1 d2 d3 : Value} (h1 : ArrAt F w t1 a0 a1 a2 a3) (h2 : ArrAt F w t2 b0 b1 b2 b3) (h3 : ArrAt F w t3 c0 c1 c2 c3) (h4 : ArrAt F w t4 d0 d1 d2 d3) :
    ItemsAt (fun _ => True) (w.alloc (.cells #[a0, a1, a2, a3, b0, b1, b2, b3, c0, c1, c2, c3, d0, d1, d2, d3] T)) (some ⟨w.heap.size, 0, none⟩) 0 [t1, t2, t3, t4] := by
  have hE : Ext w (w.alloc (.cells #[a0, a1, a2, a3, b0, b1, b2, b3, c0, c1, c2, c3, d0, d1, d2, d3] T)) := (Ext.refl _).alloc _
  have key : ∀ {t : Arr} {x0 x1 x2 x3 : Value}, ArrAt F w t x0 x1 x2 x3 → ArrAt (fun _ => True) (w.alloc (.cells #[a0, a1, a2, a3, b0, b1, b2, b3, c0, c1, c2, c3, d0, d1, d2, d3] T)) t x0 x1 x2 x3 := fun h => ArrAt.mono (fun _ _ _ => ⟨trivial, rfl⟩) _ _ _ _ _ (h.ext hE)
  unfold ItemsAt
  refine ⟨⟨_, _, a0, a1, a2, a3, rfl, trivial, by simp, by simp, by simp, by simp, key h1⟩, ?_⟩
  unfold ItemsAt
  refine ⟨⟨_, _, b0, b1, b2, b3, rfl, trivial, by simp, by simp, by simp, by simp, key h2⟩, ?_⟩
  unfold ItemsAt
  refine ⟨⟨_, _, c0, c1, c2, c3, rfl, trivial, by simp, by simp, by simp, by simp, key h3⟩, ?_⟩
  unfold ItemsAt
  refine ⟨⟨_, _, d0, d1, d2, d3, rfl, trivial, by simp, by simp, by simp, by simp, key h4⟩, ?_⟩
  unfold ItemsAt
  trivial
def olA : Arr := .mk 1 [2, 2] [1, 2, 3, 4] []
def olB : Arr := .mk 1 [2, 2] [1, 3, 0, 0] []
def olC : Arr := .mk 1 [1, 2] [1, 2] []
def olD : Arr := .mk 1 [0, 3] [] []
def olE : Arr := .mk 1 [0, 5] [] []
theorem ol1 : ocmpV (vecV [1, 2]) (vecV [1, 2, 0]) = -1 := by rfl
theorem ol2 : ocmpV (vecV [1, 2, 0]) (vecV [2]) = -1 := by rfl
theorem ol3 : ocmpV olA olB = -1 := by rfl
theorem ol4 : ocmpV olA olC = 1 := by rfl
theorem ol5 : ocmpV olD olE = -1 := by rfl
def olL : List Arr := [vecV [2], vecV [1, 1], vecV [1], vecV [2]]
theorem ol6 : sortedV olL = [2, 1, 0, 3] := by rfl
theorem ol7 : ∀ t ∈ olL, rightV t = 0 := by
  intro t ht
  simp only [olL, List.mem_cons, List.not_mem_nil, or_false] at ht
  rcases ht with rfl | rfl | rfl | rfl <;> rfl

set_option maxRecDepth 100000 in
set_option maxHeartbeats 8000000 in
theorem ordlives_any (w : World) : Calls Try.prog 51 #[] w fun e w' => e = .returned (.bool true) ∧ Ext w w' := by
  go_enter Try.func51, Try.ntmps51
  have HE := Lib.hid (Ext.refl w)
  go_upto_region 2 with (fail)
  have hEn : Ext w (((w.alloc (.cells #[.int .i64 2, .int .i64 2] 3)).alloc (.cells #[.int .i64 1, .int .i64 2, .int .i64 3, .int .i64 4] 3)).alloc (.cells #[(.int .i64 1), (.slice (some ⟨w.heap.size, 0, none⟩) 2 2), (.slice (some ⟨w.heap.size + 1, 0, none⟩) 4 4), (.slice none 0 0)] 26)) := (((Ext.refl _).alloc _).alloc _).alloc _
  have hBn := box_new ((w.alloc (.cells #[.int .i64 2, .int .i64 2] 3)).alloc (.cells #[.int .i64 1, .int .i64 2, .int .i64 3, .int .i64 4] 3)) (.int .i64 1) (.slice (some ⟨w.heap.size, 0, none⟩) 2 2) (.slice (some ⟨w.heap.size + 1, 0, none⟩) 4 4) (.slice none 0 0)
  rw [World.size_alloc, World.size_alloc] at hBn
  have hAn : ArrAt (fun _ => True) (((w.alloc (.cells #[.int .i64 2, .int .i64 2] 3)).alloc (.cells #[.int .i64 1, .int .i64 2, .int .i64 3, .int .i64 4] 3)).alloc (.cells #[(.int .i64 1), (.slice (some ⟨w.heap.size, 0, none⟩) 2 2), (.slice (some ⟨w.heap.size + 1, 0, none⟩) 4 4), (.slice none 0 0)] 26)) olA (.int .i64 1) (.slice (some ⟨w.heap.size, 0, none⟩) 2 2) (.slice (some ⟨w.heap.size + 1, 0, none⟩) 4 4) (.slice none 0 0) := lit_arr2 w 1 [2, 2] [1, 2, 3, 4] _ (by decide) (by decide) (by decide) (by decide) (by decide)
  generalize (((w.alloc (.cells #[.int .i64 2, .int .i64 2] 3)).alloc (.cells #[.int .i64 1, .int .i64 2, .int .i64 3, .int .i64 4] 3)).alloc (.cells #[(.int .i64 1), (.slice (some ⟨w.heap.size, 0, none⟩) 2 2), (.slice (some ⟨w.heap.size + 1, 0, none⟩) 4 4), (.slice none 0 0)] 26)) = wk2 at *
  generalize hbz : w.heap.size + 1 + 1 = bl1 at *
  clear hbz
  replace HE := Lib.hid (HE.out.trans (hEn))
  have HBa := Lib.hid hBn
  have HAa := Lib.hid hAn
  clear hEn hBn hAn
  go_upto_region 3 with (fail)
  have hEn : Ext wk2 (((wk2.alloc (.cells #[.int .i64 2, .int .i64 2] 3)).alloc (.cells #[.int .i64 1, .int .i64 3, .int .i64 0, .int .i64 0] 3)).alloc (.cells #[(.int .i64 1), (.slice (some ⟨wk2.heap.size, 0, none⟩) 2 2), (.slice (some ⟨wk2.heap.size + 1, 0, none⟩) 4 4), (.slice none 0 0)] 26)) := (((Ext.refl _).alloc _).alloc _).alloc _
  have hBn := box_new ((wk2.alloc (.cells #[.int .i64 2, .int .i64 2] 3)).alloc (.cells #[.int .i64 1, .int .i64 3, .int .i64 0, .int .i64 0] 3)) (.int .i64 1) (.slice (some ⟨wk2.heap.size, 0, none⟩) 2 2) (.slice (some ⟨wk2.heap.size + 1, 0, none⟩) 4 4) (.slice none 0 0)
  rw [World.size_alloc, World.size_alloc] at hBn
  have hAn : ArrAt (fun _ => True) (((wk2.alloc (.cells #[.int .i64 2, .int .i64 2] 3)).alloc (.cells #[.int .i64 1, .int .i64 3, .int .i64 0, .int .i64 0] 3)).alloc (.cells #[(.int .i64 1), (.slice (some ⟨wk2.heap.size, 0, none⟩) 2 2), (.slice (some ⟨wk2.heap.size + 1, 0, none⟩) 4 4), (.slice none 0 0)] 26)) olB (.int .i64 1) (.slice (some ⟨wk2.heap.size, 0, none⟩) 2 2) (.slice (some ⟨wk2.heap.size + 1, 0, none⟩) 4 4) (.slice none 0 0) := lit_arr2 wk2 1 [2, 2] [1, 3, 0, 0] _ (by decide) (by decide) (by decide) (by decide) (by decide)
  generalize (((wk2.alloc (.cells #[.int .i64 2, .int .i64 2] 3)).alloc (.cells #[.int .i64 1, .int .i64 3, .int .i64 0, .int .i64 0] 3)).alloc (.cells #[(.int .i64 1), (.slice (some ⟨wk2.heap.size, 0, none⟩) 2 2), (.slice (some ⟨wk2.heap.size + 1, 0, none⟩) 4 4), (.slice none 0 0)] 26)) = wk4 at *
  generalize hbz : wk2.heap.size + 1 + 1 = bl3 at *
  clear hbz
  replace HBa := Lib.hid (HBa.out.ext hEn)
  replace HAa := Lib.hid (HAa.out.ext hEn)
  replace HE := Lib.hid (HE.out.trans (hEn))
  have HBb := Lib.hid hBn
  have HAb := Lib.hid hAn
  clear hEn hBn hAn
  go_upto_region 4 with (fail)
  have hEn : Ext wk4 (((wk4.alloc (.cells #[.int .i64 1, .int .i64 2] 3)).alloc (.cells #[.int .i64 1, .int .i64 2] 3)).alloc (.cells #[(.int .i64 1), (.slice (some ⟨wk4.heap.size, 0, none⟩) 2 2), (.slice (some ⟨wk4.heap.size + 1, 0, none⟩) 2 2), (.slice none 0 0)] 26)) := (((Ext.refl _).alloc _).alloc _).alloc _
  have hBn := box_new ((wk4.alloc (.cells #[.int .i64 1, .int .i64 2] 3)).alloc (.cells #[.int .i64 1, .int .i64 2] 3)) (.int .i64 1) (.slice (some ⟨wk4.heap.size, 0, none⟩) 2 2) (.slice (some ⟨wk4.heap.size + 1, 0, none⟩) 2 2) (.slice none 0 0)
  rw [World.size_alloc, World.size_alloc] at hBn
  have hAn : ArrAt (fun _ => True) (((wk4.alloc (.cells #[.int .i64 1, .int .i64 2] 3)).alloc (.cells #[.int .i64 1, .int .i64 2] 3)).alloc (.cells #[(.int .i64 1), (.slice (some ⟨wk4.heap.size, 0, none⟩) 2 2), (.slice (some ⟨wk4.heap.size + 1, 0, none⟩) 2 2), (.slice none 0 0)] 26)) olC (.int .i64 1) (.slice (some ⟨wk4.heap.size, 0, none⟩) 2 2) (.slice (some ⟨wk4.heap.size + 1, 0, none⟩) 2 2) (.slice none 0 0) := lit_arr2 wk4 1 [1, 2] [1, 2] _ (by decide) (by decide) (by decide) (by decide) (by decide)
  generalize (((wk4.alloc (.cells #[.int .i64 1, .int .i64 2] 3)).alloc (.cells #[.int .i64 1, .int .i64 2] 3)).alloc (.cells #[(.int .i64 1), (.slice (some ⟨wk4.heap.size, 0, none⟩) 2 2), (.slice (some ⟨wk4.heap.size + 1, 0, none⟩) 2 2), (.slice none 0 0)] 26)) = wk6 at *
  generalize hbz : wk4.heap.size + 1 + 1 = bl5 at *
  clear hbz
  replace HBa := Lib.hid (HBa.out.ext hEn)
  replace HAa := Lib.hid (HAa.out.ext hEn)
  replace HBb := Lib.hid (HBb.out.ext hEn)
  replace HAb := Lib.hid (HAb.out.ext hEn)
  replace HE := Lib.hid (HE.out.trans (hEn))
  have HBc := Lib.hid hBn
  have HAc := Lib.hid hAn
  clear hEn hBn hAn
  go_upto_region 5 with (fail)
  have hEn : Ext wk6 ((wk6.alloc (.cells #[.int .i64 0, .int .i64 3] 3)).alloc (.cells #[(.int .i64 1), (.slice (some ⟨wk6.heap.size, 0, none⟩) 2 2), (.slice none 0 0), (.slice none 0 0)] 26)) := ((Ext.refl _).alloc _).alloc _
  have hBn := box_new (wk6.alloc (.cells #[.int .i64 0, .int .i64 3] 3)) (.int .i64 1) (.slice (some ⟨wk6.heap.size, 0, none⟩) 2 2) (.slice none 0 0) (.slice none 0 0)
  rw [World.size_alloc] at hBn
  have hAn : ArrAt (fun _ => True) ((wk6.alloc (.cells #[.int .i64 0, .int .i64 3] 3)).alloc (.cells #[(.int .i64 1), (.slice (some ⟨wk6.heap.size, 0, none⟩) 2 2), (.slice none 0 0), (.slice none 0 0)] 26)) olD (.int .i64 1) (.slice (some ⟨wk6.heap.size, 0, none⟩) 2 2) (.slice none 0 0) (.slice none 0 0) := lit_arr1 wk6 1 [0, 3] _ (by decide) (by decide) (by decide)
  generalize ((wk6.alloc (.cells #[.int .i64 0, .int .i64 3] 3)).alloc (.cells #[(.int .i64 1), (.slice (some ⟨wk6.heap.size, 0, none⟩) 2 2), (.slice none 0 0), (.slice none 0 0)] 26)) = wk8 at *
  generalize hbz : wk6.heap.size + 1 = bl7 at *
  clear hbz
  replace HBa := Lib.hid (HBa.out.ext hEn)
  replace HAa := Lib.hid (HAa.out.ext hEn)
  replace HBb := Lib.hid (HBb.out.ext hEn)
  replace HAb := Lib.hid (HAb.out.ext hEn)
  replace HBc := Lib.hid (HBc.out.ext hEn)
  replace HAc := Lib.hid (HAc.out.ext hEn)
  replace HE := Lib.hid (HE.out.trans (hEn))
  have HBd := Lib.hid hBn
  have HAd := Lib.hid hAn
  clear hEn hBn hAn
  go_upto_region 6 with (fail)
  have hEn : Ext wk8 ((wk8.alloc (.cells #[.int .i64 0, .int .i64 5] 3)).alloc (.cells #[(.int .i64 1), (.slice (some ⟨wk8.heap.size, 0, none⟩) 2 2), (.slice none 0 0), (.slice none 0 0)] 26)) := ((Ext.refl _).alloc _).alloc _
  have hBn := box_new (wk8.alloc (.cells #[.int .i64 0, .int .i64 5] 3)) (.int .i64 1) (.slice (some ⟨wk8.heap.size, 0, none⟩) 2 2) (.slice none 0 0) (.slice none 0 0)
  rw [World.size_alloc] at hBn
  have hAn : ArrAt (fun _ => True) ((wk8.alloc (.cells #[.int .i64 0, .int .i64 5] 3)).alloc (.cells #[(.int .i64 1), (.slice (some ⟨wk8.heap.size, 0, none⟩) 2 2), (.slice none 0 0), (.slice none 0 0)] 26)) olE (.int .i64 1) (.slice (some ⟨wk8.heap.size, 0, none⟩) 2 2) (.slice none 0 0) (.slice none 0 0) := lit_arr1 wk8 1 [0, 5] _ (by decide) (by decide) (by decide)
  generalize ((wk8.alloc (.cells #[.int .i64 0, .int .i64 5] 3)).alloc (.cells #[(.int .i64 1), (.slice (some ⟨wk8.heap.size, 0, none⟩) 2 2), (.slice none 0 0), (.slice none 0 0)] 26)) = wk10 at *
  generalize hbz : wk8.heap.size + 1 = bl9 at *
  clear hbz
  replace HBa := Lib.hid (HBa.out.ext hEn)
  replace HAa := Lib.hid (HAa.out.ext hEn)
  replace HBb := Lib.hid (HBb.out.ext hEn)
  replace HAb := Lib.hid (HAb.out.ext hEn)
  replace HBc := Lib.hid (HBc.out.ext hEn)
  replace HAc := Lib.hid (HAc.out.ext hEn)
  replace HBd := Lib.hid (HBd.out.ext hEn)
  replace HAd := Lib.hid (HAd.out.ext hEn)
  replace HE := Lib.hid (HE.out.trans (hEn))
  have HBe := Lib.hid hBn
  have HAe := Lib.hid hAn
  clear hEn hBn hAn
  go_wp2_with fail
  refine (o6ints_rd (rdix_lit0 wk10 [2] (by decide) (by decide)) (fun _ h => False.elim h)).mono ?_
  rintro e wf12 ⟨x11, rfl, hx11, hEq⟩
  have hEn := ((Ext.refl wk10).alloc (.cells #[.int .i64 2] 3)).trans hEq
  clear hEq
  replace HBa := Lib.hid (HBa.out.ext hEn)
  replace HAa := Lib.hid (HAa.out.ext hEn)
  replace HBb := Lib.hid (HBb.out.ext hEn)
  replace HAb := Lib.hid (HAb.out.ext hEn)
  replace HBc := Lib.hid (HBc.out.ext hEn)
  replace HAc := Lib.hid (HAc.out.ext hEn)
  replace HBd := Lib.hid (HBd.out.ext hEn)
  replace HAd := Lib.hid (HAd.out.ext hEn)
  replace HBe := Lib.hid (HBe.out.ext hEn)
  replace HAe := Lib.hid (HAe.out.ext hEn)
  replace HE := Lib.hid (HE.out.trans (hEn))
  clear hEn
  go_wp2_with fail
  refine (o6ints_rd (rdix_lit0 wf12 [1, 1] (by decide) (by decide)) (fun _ h => False.elim h)).mono ?_
  rintro e wf14 ⟨x13, rfl, hx13, hEq⟩
  have hEn := ((Ext.refl wf12).alloc (.cells #[.int .i64 1, .int .i64 1] 3)).trans hEq
  clear hEq
  replace hx11 := hx11.mono0 hEn
  replace HBa := Lib.hid (HBa.out.ext hEn)
  replace HAa := Lib.hid (HAa.out.ext hEn)
  replace HBb := Lib.hid (HBb.out.ext hEn)
  replace HAb := Lib.hid (HAb.out.ext hEn)
  replace HBc := Lib.hid (HBc.out.ext hEn)
  replace HAc := Lib.hid (HAc.out.ext hEn)
  replace HBd := Lib.hid (HBd.out.ext hEn)
  replace HAd := Lib.hid (HAd.out.ext hEn)
  replace HBe := Lib.hid (HBe.out.ext hEn)
  replace HAe := Lib.hid (HAe.out.ext hEn)
  replace HE := Lib.hid (HE.out.trans (hEn))
  clear hEn
  go_wp2_with fail
  refine (o6ints_rd (rdix_lit0 wf14 [1] (by decide) (by decide)) (fun _ h => False.elim h)).mono ?_
  rintro e wf16 ⟨x15, rfl, hx15, hEq⟩
  have hEn := ((Ext.refl wf14).alloc (.cells #[.int .i64 1] 3)).trans hEq
  clear hEq
  replace hx11 := hx11.mono0 hEn
  replace hx13 := hx13.mono0 hEn
  replace HBa := Lib.hid (HBa.out.ext hEn)
  replace HAa := Lib.hid (HAa.out.ext hEn)
  replace HBb := Lib.hid (HBb.out.ext hEn)
  replace HAb := Lib.hid (HAb.out.ext hEn)
  replace HBc := Lib.hid (HBc.out.ext hEn)
  replace HAc := Lib.hid (HAc.out.ext hEn)
  replace HBd := Lib.hid (HBd.out.ext hEn)
  replace HAd := Lib.hid (HAd.out.ext hEn)
  replace HBe := Lib.hid (HBe.out.ext hEn)
  replace HAe := Lib.hid (HAe.out.ext hEn)
  replace HE := Lib.hid (HE.out.trans (hEn))
  clear hEn
  go_wp2_with fail
  refine (o6ints_rd (rdix_lit0 wf16 [2] (by decide) (by decide)) (fun _ h => False.elim h)).mono ?_
  rintro e wf18 ⟨x17, rfl, hx17, hEq⟩
  have hEn := ((Ext.refl wf16).alloc (.cells #[.int .i64 2] 3)).trans hEq
  clear hEq
  replace hx11 := hx11.mono0 hEn
  replace hx13 := hx13.mono0 hEn
  replace hx15 := hx15.mono0 hEn
  replace HBa := Lib.hid (HBa.out.ext hEn)
  replace HAa := Lib.hid (HAa.out.ext hEn)
  replace HBb := Lib.hid (HBb.out.ext hEn)
  replace HAb := Lib.hid (HAb.out.ext hEn)
  replace HBc := Lib.hid (HBc.out.ext hEn)
  replace HAc := Lib.hid (HAc.out.ext hEn)
  replace HBd := Lib.hid (HBd.out.ext hEn)
  replace HAd := Lib.hid (HAd.out.ext hEn)
  replace HBe := Lib.hid (HBe.out.ext hEn)
  replace HAe := Lib.hid (HAe.out.ext hEn)
  replace HE := Lib.hid (HE.out.trans (hEn))
  clear hEn
  obtain ⟨c0, c1, c2, c3, rfl, hAx11⟩ := hx11
  obtain ⟨kx11, pax11, lax11, max11, pbx11, lbx11, mbx11, pcx11, lcx11, mcx11, rfl, rfl, rfl, rfl⟩ := hAx11.form
  obtain ⟨c0, c1, c2, c3, rfl, hAx13⟩ := hx13
  obtain ⟨kx13, pax13, lax13, max13, pbx13, lbx13, mbx13, pcx13, lcx13, mcx13, rfl, rfl, rfl, rfl⟩ := hAx13.form
  obtain ⟨c0, c1, c2, c3, rfl, hAx15⟩ := hx15
  obtain ⟨kx15, pax15, lax15, max15, pbx15, lbx15, mbx15, pcx15, lcx15, mcx15, rfl, rfl, rfl, rfl⟩ := hAx15.form
  obtain ⟨c0, c1, c2, c3, rfl, hAx17⟩ := hx17
  obtain ⟨kx17, pax17, lax17, max17, pbx17, lbx17, mbx17, pcx17, lcx17, mcx17, rfl, rfl, rfl, rfl⟩ := hAx17.form
  have hIT := fun T => items4 (w := wf18) T hAx11 hAx13 hAx15 hAx17
  have hEX : ∀ T, Ext wf18 (wf18.alloc (.cells #[(.int .i64 kx11), (.slice pax11 lax11 max11), (.slice pbx11 lbx11 mbx11), (.slice pcx11 lcx11 mcx11), (.int .i64 kx13), (.slice pax13 lax13 max13), (.slice pbx13 lbx13 mbx13), (.slice pcx13 lcx13 mcx13), (.int .i64 kx15), (.slice pax15 lax15 max15), (.slice pbx15 lbx15 mbx15), (.slice pcx15 lcx15 mcx15), (.int .i64 kx17), (.slice pax17 lax17 max17), (.slice pbx17 lbx17 mbx17), (.slice pcx17 lcx17 mcx17)] T)) := fun T => (Ext.refl _).alloc _
  have HIT := Lib.hid hIT
  have HEX := Lib.hid hEX
  clear hIT hEX hAx11 hAx13 hAx15 hAx17
  go_wp2_with fail
  refine (sorted_any (fun _ => True) (some ⟨wf18.heap.size, 0, none⟩) 4 olL _ (HIT.out _) ol7 (by decide) (by decide)).mono ?_
  rintro e ws ⟨v, rfl, hO, hEs⟩
  have hEn := (HEX.out _).trans hEs
  rw [ol6] at hO
  obtain ⟨pv, cv, rfl, _, hI⟩ := hO.ints
  have HIl := Lib.hid hI
  clear HIT HEX hEs hO hI
  replace HBa := Lib.hid (HBa.out.ext hEn)
  replace HAa := Lib.hid (HAa.out.ext hEn)
  replace HBb := Lib.hid (HBb.out.ext hEn)
  replace HAb := Lib.hid (HAb.out.ext hEn)
  replace HBc := Lib.hid (HBc.out.ext hEn)
  replace HAc := Lib.hid (HAc.out.ext hEn)
  replace HBd := Lib.hid (HBd.out.ext hEn)
  replace HAd := Lib.hid (HAd.out.ext hEn)
  replace HBe := Lib.hid (HBe.out.ext hEn)
  replace HAe := Lib.hid (HAe.out.ext hEn)
  replace HE := Lib.hid (HE.out.trans (hEn))
  clear hEn
  go_wp2_with fail
  refine (o6ints_rd (rdix_lit0 ws [1, 2] (by decide) (by decide)) (fun _ h => False.elim h)).mono ?_
  rintro e wf20 ⟨x19, rfl, hx19, hEq⟩
  have hEn := ((Ext.refl ws).alloc (.cells #[.int .i64 1, .int .i64 2] 3)).trans hEq
  clear hEq
  replace HBa := Lib.hid (HBa.out.ext hEn)
  replace HAa := Lib.hid (HAa.out.ext hEn)
  replace HBb := Lib.hid (HBb.out.ext hEn)
  replace HAb := Lib.hid (HAb.out.ext hEn)
  replace HBc := Lib.hid (HBc.out.ext hEn)
  replace HAc := Lib.hid (HAc.out.ext hEn)
  replace HBd := Lib.hid (HBd.out.ext hEn)
  replace HAd := Lib.hid (HAd.out.ext hEn)
  replace HBe := Lib.hid (HBe.out.ext hEn)
  replace HAe := Lib.hid (HAe.out.ext hEn)
  replace HIl := Lib.hid (HIl.out.ext hEn)
  replace HE := Lib.hid (HE.out.trans (hEn))
  clear hEn
  go_wp2_with fail
  refine (o6ints_rd (rdix_lit0 wf20 [1, 2, 0] (by decide) (by decide)) (fun _ h => False.elim h)).mono ?_
  rintro e wf22 ⟨x21, rfl, hx21, hEq⟩
  have hEn := ((Ext.refl wf20).alloc (.cells #[.int .i64 1, .int .i64 2, .int .i64 0] 3)).trans hEq
  clear hEq
  replace hx19 := hx19.mono0 hEn
  replace HBa := Lib.hid (HBa.out.ext hEn)
  replace HAa := Lib.hid (HAa.out.ext hEn)
  replace HBb := Lib.hid (HBb.out.ext hEn)
  replace HAb := Lib.hid (HAb.out.ext hEn)
  replace HBc := Lib.hid (HBc.out.ext hEn)
  replace HAc := Lib.hid (HAc.out.ext hEn)
  replace HBd := Lib.hid (HBd.out.ext hEn)
  replace HAd := Lib.hid (HAd.out.ext hEn)
  replace HBe := Lib.hid (HBe.out.ext hEn)
  replace HAe := Lib.hid (HAe.out.ext hEn)
  replace HIl := Lib.hid (HIl.out.ext hEn)
  replace HE := Lib.hid (HE.out.trans (hEn))
  clear hEn
  go_wp2_with fail
  refine (ocmp_rd ol1 hx19.rd hx21.rd).mono ?_
  rintro e wf23 ⟨rfl, hEn⟩
  replace hx19 := hx19.mono0 hEn
  replace hx21 := hx21.mono0 hEn
  replace HBa := Lib.hid (HBa.out.ext hEn)
  replace HAa := Lib.hid (HAa.out.ext hEn)
  replace HBb := Lib.hid (HBb.out.ext hEn)
  replace HAb := Lib.hid (HAb.out.ext hEn)
  replace HBc := Lib.hid (HBc.out.ext hEn)
  replace HAc := Lib.hid (HAc.out.ext hEn)
  replace HBd := Lib.hid (HBd.out.ext hEn)
  replace HAd := Lib.hid (HAd.out.ext hEn)
  replace HBe := Lib.hid (HBe.out.ext hEn)
  replace HAe := Lib.hid (HAe.out.ext hEn)
  replace HIl := Lib.hid (HIl.out.ext hEn)
  replace HE := Lib.hid (HE.out.trans (hEn))
  clear hEn
  clear hx19 hx21
  go_wp2_with fail
  refine (o6ints_rd (rdix_lit0 wf23 [1, 2, 0] (by decide) (by decide)) (fun _ h => False.elim h)).mono ?_
  rintro e wf25 ⟨x24, rfl, hx24, hEq⟩
  have hEn := ((Ext.refl wf23).alloc (.cells #[.int .i64 1, .int .i64 2, .int .i64 0] 3)).trans hEq
  clear hEq
  replace HBa := Lib.hid (HBa.out.ext hEn)
  replace HAa := Lib.hid (HAa.out.ext hEn)
  replace HBb := Lib.hid (HBb.out.ext hEn)
  replace HAb := Lib.hid (HAb.out.ext hEn)
  replace HBc := Lib.hid (HBc.out.ext hEn)
  replace HAc := Lib.hid (HAc.out.ext hEn)
  replace HBd := Lib.hid (HBd.out.ext hEn)
  replace HAd := Lib.hid (HAd.out.ext hEn)
  replace HBe := Lib.hid (HBe.out.ext hEn)
  replace HAe := Lib.hid (HAe.out.ext hEn)
  replace HIl := Lib.hid (HIl.out.ext hEn)
  replace HE := Lib.hid (HE.out.trans (hEn))
  clear hEn
  go_wp2_with fail
  refine (o6ints_rd (rdix_lit0 wf25 [2] (by decide) (by decide)) (fun _ h => False.elim h)).mono ?_
  rintro e wf27 ⟨x26, rfl, hx26, hEq⟩
  have hEn := ((Ext.refl wf25).alloc (.cells #[.int .i64 2] 3)).trans hEq
  clear hEq
  replace hx24 := hx24.mono0 hEn
  replace HBa := Lib.hid (HBa.out.ext hEn)
  replace HAa := Lib.hid (HAa.out.ext hEn)
  replace HBb := Lib.hid (HBb.out.ext hEn)
  replace HAb := Lib.hid (HAb.out.ext hEn)
  replace HBc := Lib.hid (HBc.out.ext hEn)
  replace HAc := Lib.hid (HAc.out.ext hEn)
  replace HBd := Lib.hid (HBd.out.ext hEn)
  replace HAd := Lib.hid (HAd.out.ext hEn)
  replace HBe := Lib.hid (HBe.out.ext hEn)
  replace HAe := Lib.hid (HAe.out.ext hEn)
  replace HIl := Lib.hid (HIl.out.ext hEn)
  replace HE := Lib.hid (HE.out.trans (hEn))
  clear hEn
  go_wp2_with fail
  refine (oless_rd ol2 hx24.rd hx26.rd).mono ?_
  rintro e wf28 ⟨rfl, hEn⟩
  replace hx24 := hx24.mono0 hEn
  replace hx26 := hx26.mono0 hEn
  replace HBa := Lib.hid (HBa.out.ext hEn)
  replace HAa := Lib.hid (HAa.out.ext hEn)
  replace HBb := Lib.hid (HBb.out.ext hEn)
  replace HAb := Lib.hid (HAb.out.ext hEn)
  replace HBc := Lib.hid (HBc.out.ext hEn)
  replace HAc := Lib.hid (HAc.out.ext hEn)
  replace HBd := Lib.hid (HBd.out.ext hEn)
  replace HAd := Lib.hid (HAd.out.ext hEn)
  replace HBe := Lib.hid (HBe.out.ext hEn)
  replace HAe := Lib.hid (HAe.out.ext hEn)
  replace HIl := Lib.hid (HIl.out.ext hEn)
  replace HE := Lib.hid (HE.out.trans (hEn))
  clear hEn
  clear hx24 hx26
  obtain ⟨sa0, sa1, sa2, sa3⟩ := HBa.out.cell
  obtain ⟨sb0, sb1, sb2, sb3⟩ := HBb.out.cell
  go_wp2_with fail
  refine (ocmp_rd ol3 (Rd.mk HAa.out) (Rd.mk HAb.out)).mono ?_
  rintro e wf29 ⟨rfl, hEn⟩
  replace HBa := Lib.hid (HBa.out.ext hEn)
  replace HAa := Lib.hid (HAa.out.ext hEn)
  replace HBb := Lib.hid (HBb.out.ext hEn)
  replace HAb := Lib.hid (HAb.out.ext hEn)
  replace HBc := Lib.hid (HBc.out.ext hEn)
  replace HAc := Lib.hid (HAc.out.ext hEn)
  replace HBd := Lib.hid (HBd.out.ext hEn)
  replace HAd := Lib.hid (HAd.out.ext hEn)
  replace HBe := Lib.hid (HBe.out.ext hEn)
  replace HAe := Lib.hid (HAe.out.ext hEn)
  replace HIl := Lib.hid (HIl.out.ext hEn)
  replace HE := Lib.hid (HE.out.trans (hEn))
  clear hEn
  clear sa0 sa1 sa2 sa3 sb0 sb1 sb2 sb3
  obtain ⟨sa0, sa1, sa2, sa3⟩ := HBa.out.cell
  obtain ⟨sc0, sc1, sc2, sc3⟩ := HBc.out.cell
  go_wp2_with fail
  refine (ocmp_rd ol4 (Rd.mk HAa.out) (Rd.mk HAc.out)).mono ?_
  rintro e wf30 ⟨rfl, hEn⟩
  replace HBa := Lib.hid (HBa.out.ext hEn)
  replace HAa := Lib.hid (HAa.out.ext hEn)
  replace HBb := Lib.hid (HBb.out.ext hEn)
  replace HAb := Lib.hid (HAb.out.ext hEn)
  replace HBc := Lib.hid (HBc.out.ext hEn)
  replace HAc := Lib.hid (HAc.out.ext hEn)
  replace HBd := Lib.hid (HBd.out.ext hEn)
  replace HAd := Lib.hid (HAd.out.ext hEn)
  replace HBe := Lib.hid (HBe.out.ext hEn)
  replace HAe := Lib.hid (HAe.out.ext hEn)
  replace HIl := Lib.hid (HIl.out.ext hEn)
  replace HE := Lib.hid (HE.out.trans (hEn))
  clear hEn
  clear sa0 sa1 sa2 sa3 sc0 sc1 sc2 sc3
  obtain ⟨sd0, sd1, sd2, sd3⟩ := HBd.out.cell
  obtain ⟨se0, se1, se2, se3⟩ := HBe.out.cell
  go_wp2_with fail
  refine (ocmp_rd ol5 (Rd.mk HAd.out) (Rd.mk HAe.out)).mono ?_
  rintro e wf31 ⟨rfl, hEn⟩
  replace HBa := Lib.hid (HBa.out.ext hEn)
  replace HAa := Lib.hid (HAa.out.ext hEn)
  replace HBb := Lib.hid (HBb.out.ext hEn)
  replace HAb := Lib.hid (HAb.out.ext hEn)
  replace HBc := Lib.hid (HBc.out.ext hEn)
  replace HAc := Lib.hid (HAc.out.ext hEn)
  replace HBd := Lib.hid (HBd.out.ext hEn)
  replace HAd := Lib.hid (HAd.out.ext hEn)
  replace HBe := Lib.hid (HBe.out.ext hEn)
  replace HAe := Lib.hid (HAe.out.ext hEn)
  replace HIl := Lib.hid (HIl.out.ext hEn)
  replace HE := Lib.hid (HE.out.trans (hEn))
  clear hEn
  clear sd0 sd1 sd2 sd3 se0 se1 se2 se3
  obtain ⟨bl0, ol0, el0, i0, _, _⟩ := HIl.out.get (i := 0) (by decide)
  obtain ⟨bl1, oo1, el1, i1, _, _⟩ := HIl.out.get (i := 1) (by decide)
  obtain ⟨bl2, oo2, el2, i2, _, _⟩ := HIl.out.get (i := 2) (by decide)
  obtain ⟨bl3, oo3, el3, i3, _, _⟩ := HIl.out.get (i := 3) (by decide)
  subst el0
  cases el1
  cases el2
  cases el3
  replace i0 : wf31.cell? ⟨bl0, ol0, none⟩ = some (.int .i64 2) := i0
  replace i1 : wf31.cell? ⟨bl0, ol0 + 1, none⟩ = some (.int .i64 1) := i1
  replace i2 : wf31.cell? ⟨bl0, ol0 + 2, none⟩ = some (.int .i64 0) := i2
  replace i3 : wf31.cell? ⟨bl0, ol0 + 3, none⟩ = some (.int .i64 3) := i3
  go_wp2_with fail
  go_ret
  exact ⟨rfl, HE.out⟩
end Go.Proofs.Ytgkemmdghmklfaa
