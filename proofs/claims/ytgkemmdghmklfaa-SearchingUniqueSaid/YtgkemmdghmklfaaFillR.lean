/-
  THE WALK of ref03.Fill. (Cut out of XFillC by split_gather.py.)
-/
import Derived.Test.YtgkemmdghmklfaaCommon
namespace Go.Proofs.Ytgkemmdghmklfaa
set_option linter.unusedSimpArgs false
set_option linter.unusedVariables false
open Go.RowKit

/-- The fill element as a scalar. -/
def fillV : Arr → Arr
  | .mk k _ _ _ => if k = 1 then .mk 1 [] [0] [] else if k = 2 then .mk 2 [] [32] [] else if k = 3 then .mk 3 [] [] [.mk 1 [0] [] []] else .mk 0 [] [] []

set_option maxHeartbeats 1000000 in
theorem rfill_any (F : Nat → Prop) (t : Arr) (c0 c1 c2 c3 : Value) (w : World) (h : ArrAt F w t c0 c1 c2 c3) :
    Calls Try.prog 150 #[.agg #[c0, c1, c2, c3]] w fun e w' => ∃ e0 e1 e2 e3, e = .returned (.agg #[e0, e1, e2, e3]) ∧ ArrAt (fun b => w.heap.size ≤ b) w' (fillV t) e0 e1 e2 e3 ∧ Ext w w' := by
  obtain ⟨k, s, n, it⟩ := t
  unfold ArrAt at h
  obtain ⟨rfl, hk, ⟨p1, k1, rfl, ⟨o1, o1', o1''⟩, i1⟩, ⟨p2, k2, rfl, ⟨o2, o2', o2''⟩, i2⟩, ⟨p3, k3, rfl, ⟨o3, o3', o3''⟩, i3⟩⟩ := h
  clear i1 i2 i3
  rcases (show k = 1 ∨ k = 2 ∨ k = 3 ∨ (k ≠ 1 ∧ k ≠ 2 ∧ k ≠ 3) from by omega) with rfl | rfl | rfl | ⟨h1, h2, h3⟩
  · have hB := (box_new (w.alloc (.cells #[.int .i64 1, .slice p1 s.length k1, .slice p2 n.length k2, .slice p3 it.length k3] 26)) (.int .i64 1) (.slice none 0 0) (.slice (some ⟨w.heap.size + 1 + 1, 0, none⟩) 1 1) (.slice none 0 0)).ext ((Ext.refl _).alloc (.cells #[.int .i64 0] 3))
    have hR := rowI_new' ((w.alloc (.cells #[.int .i64 1, .slice p1 s.length k1, .slice p2 n.length k2, .slice p3 it.length k3] 26)).alloc (.cells #[.int .i64 1, .slice none 0 0, .slice (some ⟨w.heap.size + 1 + 1, 0, none⟩) 1 1, .slice none 0 0] 26)) [0]
    have hE : Ext w (((w.alloc (.cells #[.int .i64 1, .slice p1 s.length k1, .slice p2 n.length k2, .slice p3 it.length k3] 26)).alloc (.cells #[.int .i64 1, .slice none 0 0, .slice (some ⟨w.heap.size + 1 + 1, 0, none⟩) 1 1, .slice none 0 0] 26)).alloc (.cells #[.int .i64 0] 3)) := ((((Ext.refl w).alloc _).alloc _).alloc _)
    rw [World.size_alloc] at hB
    rw [World.size_alloc, World.size_alloc] at hR
    change RowI (((w.alloc (.cells #[.int .i64 1, .slice p1 s.length k1, .slice p2 n.length k2, .slice p3 it.length k3] 26)).alloc (.cells #[.int .i64 1, .slice none 0 0, .slice (some ⟨w.heap.size + 1 + 1, 0, none⟩) 1 1, .slice none 0 0] 26)).alloc (.cells #[.int .i64 0] 3)) _ _ at hR
    go_enter Try.func150, Try.ntmps150
    go_wp2_with fail
    generalize ((w.alloc (.cells #[.int .i64 1, .slice p1 s.length k1, .slice p2 n.length k2, .slice p3 it.length k3] 26)).alloc (.cells #[.int .i64 1, .slice none 0 0, .slice (some ⟨w.heap.size + 1 + 1, 0, none⟩) 1 1, .slice none 0 0] 26)).alloc (.cells #[.int .i64 0] 3) = w9 at *
    obtain ⟨z0, z1, z2, z3⟩ := hB.cell
    have hA : ArrAt (fun b => w.heap.size ≤ b) w9 (fillV (.mk 1 s n it)) (.int .i64 1) (.slice none 0 0) (.slice (some ⟨w.heap.size + 1 + 1, 0, none⟩) 1 1) (.slice none 0 0) := by
      show ArrAt _ _ (.mk 1 [] [0] []) _ _ _ _
      unfold ArrAt
      exact ⟨rfl, by omega, nilI _ _, hR.sl (by omega) (by simp) (by simp), nilA _ _⟩
    refine bodyPost_ret (v := .agg #[.int .i64 1, .slice none 0 0, .slice (some ⟨w.heap.size + 1 + 1, 0, none⟩) 1 1, .slice none 0 0]) ?_ rfl ⟨_, _, _, _, rfl, hA, hE⟩
    simp [results, Try.results150, go_sem, z0, z1, z2, z3]
  · have hB := (box_new (w.alloc (.cells #[.int .i64 2, .slice p1 s.length k1, .slice p2 n.length k2, .slice p3 it.length k3] 26)) (.int .i64 2) (.slice none 0 0) (.slice (some ⟨w.heap.size + 1 + 1, 0, none⟩) 1 1) (.slice none 0 0)).ext ((Ext.refl _).alloc (.cells #[.int .i64 32] 3))
    have hR := rowI_new' ((w.alloc (.cells #[.int .i64 2, .slice p1 s.length k1, .slice p2 n.length k2, .slice p3 it.length k3] 26)).alloc (.cells #[.int .i64 2, .slice none 0 0, .slice (some ⟨w.heap.size + 1 + 1, 0, none⟩) 1 1, .slice none 0 0] 26)) [32]
    have hE : Ext w (((w.alloc (.cells #[.int .i64 2, .slice p1 s.length k1, .slice p2 n.length k2, .slice p3 it.length k3] 26)).alloc (.cells #[.int .i64 2, .slice none 0 0, .slice (some ⟨w.heap.size + 1 + 1, 0, none⟩) 1 1, .slice none 0 0] 26)).alloc (.cells #[.int .i64 32] 3)) := ((((Ext.refl w).alloc _).alloc _).alloc _)
    rw [World.size_alloc] at hB
    rw [World.size_alloc, World.size_alloc] at hR
    change RowI (((w.alloc (.cells #[.int .i64 2, .slice p1 s.length k1, .slice p2 n.length k2, .slice p3 it.length k3] 26)).alloc (.cells #[.int .i64 2, .slice none 0 0, .slice (some ⟨w.heap.size + 1 + 1, 0, none⟩) 1 1, .slice none 0 0] 26)).alloc (.cells #[.int .i64 32] 3)) _ _ at hR
    go_enter Try.func150, Try.ntmps150
    go_wp2_with fail
    generalize ((w.alloc (.cells #[.int .i64 2, .slice p1 s.length k1, .slice p2 n.length k2, .slice p3 it.length k3] 26)).alloc (.cells #[.int .i64 2, .slice none 0 0, .slice (some ⟨w.heap.size + 1 + 1, 0, none⟩) 1 1, .slice none 0 0] 26)).alloc (.cells #[.int .i64 32] 3) = w9 at *
    obtain ⟨z0, z1, z2, z3⟩ := hB.cell
    have hA : ArrAt (fun b => w.heap.size ≤ b) w9 (fillV (.mk 2 s n it)) (.int .i64 2) (.slice none 0 0) (.slice (some ⟨w.heap.size + 1 + 1, 0, none⟩) 1 1) (.slice none 0 0) := by
      show ArrAt _ _ (.mk 2 [] [32] []) _ _ _ _
      unfold ArrAt
      exact ⟨rfl, by omega, nilI _ _, hR.sl (by omega) (by simp) (by simp), nilA _ _⟩
    refine bodyPost_ret (v := .agg #[.int .i64 2, .slice none 0 0, .slice (some ⟨w.heap.size + 1 + 1, 0, none⟩) 1 1, .slice none 0 0]) ?_ rfl ⟨_, _, _, _, rfl, hA, hE⟩
    simp [results, Try.results150, go_sem, z0, z1, z2, z3]
  · have hB := ((box_new (w.alloc (.cells #[.int .i64 3, .slice p1 s.length k1, .slice p2 n.length k2, .slice p3 it.length k3] 26)) (.int .i64 3) (.slice none 0 0) (.slice none 0 0) (.slice (some ⟨w.heap.size + 1 + 1 + 1, 0, none⟩) 1 1)).ext ((Ext.refl _).alloc (.cells #[.int .i64 0] 3))).ext ((Ext.refl _).alloc (.cells #[.int .i64 1, .slice (some ⟨w.heap.size + 1 + 1, 0, none⟩) 1 1, .slice none 0 0, .slice none 0 0] 26))
    have hR := (rowI_new' ((w.alloc (.cells #[.int .i64 3, .slice p1 s.length k1, .slice p2 n.length k2, .slice p3 it.length k3] 26)).alloc (.cells #[.int .i64 3, .slice none 0 0, .slice none 0 0, .slice (some ⟨w.heap.size + 1 + 1 + 1, 0, none⟩) 1 1] 26)) [0]).ext ((Ext.refl _).alloc (.cells #[.int .i64 1, .slice (some ⟨w.heap.size + 1 + 1, 0, none⟩) 1 1, .slice none 0 0, .slice none 0 0] 26))
    have hI := box_new (((w.alloc (.cells #[.int .i64 3, .slice p1 s.length k1, .slice p2 n.length k2, .slice p3 it.length k3] 26)).alloc (.cells #[.int .i64 3, .slice none 0 0, .slice none 0 0, .slice (some ⟨w.heap.size + 1 + 1 + 1, 0, none⟩) 1 1] 26)).alloc (.cells #[.int .i64 0] 3)) (.int .i64 1) (.slice (some ⟨w.heap.size + 1 + 1, 0, none⟩) 1 1) (.slice none 0 0) (.slice none 0 0)
    have hE : Ext w ((((w.alloc (.cells #[.int .i64 3, .slice p1 s.length k1, .slice p2 n.length k2, .slice p3 it.length k3] 26)).alloc (.cells #[.int .i64 3, .slice none 0 0, .slice none 0 0, .slice (some ⟨w.heap.size + 1 + 1 + 1, 0, none⟩) 1 1] 26)).alloc (.cells #[.int .i64 0] 3)).alloc (.cells #[.int .i64 1, .slice (some ⟨w.heap.size + 1 + 1, 0, none⟩) 1 1, .slice none 0 0, .slice none 0 0] 26)) := (((((Ext.refl w).alloc _).alloc _).alloc _).alloc _)
    rw [World.size_alloc] at hB
    rw [World.size_alloc, World.size_alloc] at hR
    rw [World.size_alloc, World.size_alloc, World.size_alloc] at hI
    change RowI ((((w.alloc (.cells #[.int .i64 3, .slice p1 s.length k1, .slice p2 n.length k2, .slice p3 it.length k3] 26)).alloc (.cells #[.int .i64 3, .slice none 0 0, .slice none 0 0, .slice (some ⟨w.heap.size + 1 + 1 + 1, 0, none⟩) 1 1] 26)).alloc (.cells #[.int .i64 0] 3)).alloc (.cells #[.int .i64 1, .slice (some ⟨w.heap.size + 1 + 1, 0, none⟩) 1 1, .slice none 0 0, .slice none 0 0] 26)) _ _ at hR
    go_enter Try.func150, Try.ntmps150
    go_wp2_with fail
    generalize (((w.alloc (.cells #[.int .i64 3, .slice p1 s.length k1, .slice p2 n.length k2, .slice p3 it.length k3] 26)).alloc (.cells #[.int .i64 3, .slice none 0 0, .slice none 0 0, .slice (some ⟨w.heap.size + 1 + 1 + 1, 0, none⟩) 1 1] 26)).alloc (.cells #[.int .i64 0] 3)).alloc (.cells #[.int .i64 1, .slice (some ⟨w.heap.size + 1 + 1, 0, none⟩) 1 1, .slice none 0 0, .slice none 0 0] 26) = w9 at *
    obtain ⟨z0, z1, z2, z3⟩ := hB.cell
    obtain ⟨y0, y1, y2, y3⟩ := hI.cell
    have hA : ArrAt (fun b => w.heap.size ≤ b) w9 (fillV (.mk 3 s n it)) (.int .i64 3) (.slice none 0 0) (.slice none 0 0) (.slice (some ⟨w.heap.size + 1 + 1 + 1, 0, none⟩) 1 1) := by
      show ArrAt _ _ (.mk 3 [] [] [.mk 1 [0] [] []]) _ _ _ _
      unfold ArrAt
      refine ⟨rfl, by omega, nilI _ _, nilI _ _, ⟨_, _, rfl, ⟨by simp, by simp, by simp⟩, ?_⟩⟩
      unfold ItemsAt
      refine ⟨⟨w.heap.size + 1 + 1 + 1, 0, _, _, _, _, rfl, by omega, by simpa using y0, by simpa using y1, by simpa using y2, by simpa using y3, ?_⟩, by unfold ItemsAt; trivial⟩
      unfold ArrAt
      exact ⟨rfl, by omega, hR.sl (by omega) (by simp) (by simp), nilI _ _, nilA _ _⟩
    refine bodyPost_ret (v := .agg #[.int .i64 3, .slice none 0 0, .slice none 0 0, .slice (some ⟨w.heap.size + 1 + 1 + 1, 0, none⟩) 1 1]) ?_ rfl ⟨_, _, _, _, rfl, hA, hE⟩
    simp [results, Try.results150, go_sem, z0, z1, z2, z3]
  · have e1 : (k == 1) = false := by simpa using h1
    have e2 : (k == 2) = false := by simpa using h2
    have e3 : (k == 3) = false := by simpa using h3
    have hF : Hid (fillV (.mk k s n it) = Arr.zero) := by
      show _ = _
      rw [fillV, if_neg h1, if_neg h2, if_neg h3]; rfl
    rw [hF.out]
    clear h1 h2 h3
    have hE : Ext w ((w.alloc (.cells #[.int .i64 k, .slice p1 s.length k1, .slice p2 n.length k2, .slice p3 it.length k3] 26)).alloc (.cells #[.int .i64 0, .slice none 0 0, .slice none 0 0, .slice none 0 0] 26)) := ((Ext.refl _).alloc _).alloc _
    have hB := box_new (w.alloc (.cells #[.int .i64 k, .slice p1 s.length k1, .slice p2 n.length k2, .slice p3 it.length k3] 26)) (.int .i64 0) (.slice none 0 0) (.slice none 0 0) (.slice none 0 0)
    rw [World.size_alloc] at hB
    go_enter Try.func150, Try.ntmps150
    go_wp2_with fail
    generalize (w.alloc (.cells #[.int .i64 k, .slice p1 s.length k1, .slice p2 n.length k2, .slice p3 it.length k3] 26)).alloc (.cells #[.int .i64 0, .slice none 0 0, .slice none 0 0, .slice none 0 0] 26) = w9 at *
    obtain ⟨z0, z1, z2, z3⟩ := hB.cell
    refine bodyPost_ret (v := .agg #[.int .i64 0, .slice none 0 0, .slice none 0 0, .slice none 0 0]) ?_ rfl ⟨_, _, _, _, rfl, Arr.zero_at _ _, hE⟩
    simp [results, Try.results150, go_sem, z0, z1, z2, z3]
end Go.Proofs.Ytgkemmdghmklfaa
