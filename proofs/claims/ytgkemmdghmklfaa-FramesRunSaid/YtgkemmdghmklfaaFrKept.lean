/-
  frames.kept of an array.
-/
import Derived.Test.YtgkemmdghmklfaaFrNew
import Derived.Test.YtgkemmdghmklfaaFzC
namespace Go.Proofs.Ytgkemmdghmklfaa
set_option linter.unusedSimpArgs false
set_option linter.unusedVariables false
open Go.RowKit

/-- A store of a whole value into its box. -/
theorem RowC.put5 {T : TypeId} {w0 w : World} {b : Nat} {c0 c1 c2 c3 c4 : Value} (h : RowC T w b [c0, c1, c2, c3, c4]) (hE : Ext w0 w) (hb : w0.heap.size ≤ b) (v0 v1 v2 v3 v4 : Value) :
    Ext w0 (((((w.setCell ⟨b, 0, none⟩ v0).setCell ⟨b, 1, none⟩ v1).setCell ⟨b, 2, none⟩ v2).setCell ⟨b, 3, none⟩ v3).setCell ⟨b, 4, none⟩ v4) ∧
    RowC T (((((w.setCell ⟨b, 0, none⟩ v0).setCell ⟨b, 1, none⟩ v1).setCell ⟨b, 2, none⟩ v2).setCell ⟨b, 3, none⟩ v3).setCell ⟨b, 4, none⟩ v4) b [v0, v1, v2, v3, v4] ∧
    ∀ x, x ≠ b → (((((w.setCell ⟨b, 0, none⟩ v0).setCell ⟨b, 1, none⟩ v1).setCell ⟨b, 2, none⟩ v2).setCell ⟨b, 3, none⟩ v3).setCell ⟨b, 4, none⟩ v4).heap[x]? = w.heap[x]? :=
  ⟨((((hE.setCell (p := ⟨b, 0, none⟩) hb _).setCell (p := ⟨b, 1, none⟩) hb _).setCell (p := ⟨b, 2, none⟩) hb _).setCell (p := ⟨b, 3, none⟩) hb _).setCell (p := ⟨b, 4, none⟩) hb _,
   ((((h.set 0 v0).set 1 v1).set 2 v2).set 3 v3).set 4 v4,
   fun x hx => (Below.heap_setCell _ _ _ _ hx).trans ((Below.heap_setCell _ _ _ _ hx).trans ((Below.heap_setCell _ _ _ _ hx).trans ((Below.heap_setCell _ _ _ _ hx).trans (Below.heap_setCell _ _ _ _ hx))))⟩
theorem RowC.cell5 {T : TypeId} {w : World} {b : Nat} {c0 c1 c2 c3 c4 : Value} (h : RowC T w b [c0, c1, c2, c3, c4]) : w.cell? ⟨b, 0, none⟩ = some c0 ∧ w.cell? ⟨b, 1, none⟩ = some c1 ∧ w.cell? ⟨b, 2, none⟩ = some c2 ∧ w.cell? ⟨b, 3, none⟩ = some c3 ∧ w.cell? ⟨b, 4, none⟩ = some c4 :=
  ⟨h.cell (j := 0) (by simp), h.cell (j := 1) (by simp), h.cell (j := 2) (by simp), h.cell (j := 3) (by simp), h.cell (j := 4) (by simp)⟩

set_option maxRecDepth 100000 in
set_option maxHeartbeats 2000000 in
theorem kept_anyF (F : Nat → Prop) (t : Arr) (c0 c1 c2 c3 : Value) (w : World) (h : ArrAt F w t c0 c1 c2 c3) :
    Calls Try.prog 71 #[.agg #[c0, c1, c2, c3, .nilIface]] w fun e w' => ∃ e0 e1 e2 e3, e = .returned (.agg #[e0, e1, e2, e3, .nilIface]) ∧ ArrAt (fun b => w.heap.size ≤ b ∧ Fz.NoFz w' b) w' t e0 e1 e2 e3 ∧ Ext w w' := by
  obtain ⟨k, p1, l1, m1, p2, l2, m2, p3, l3, m3, rfl, rfl, rfl, rfl⟩ := h.form
  have HA := Lib.hid h
  clear h
  go_enter Try.func71, Try.ntmps71
  go_wp2_with fail
  have hE1 : Ext w ((w.alloc (.cells #[.int .i64 k, .slice p1 l1 m1, .slice p2 l2 m2, .slice p3 l3 m3, .nilIface] 38)).alloc (.cells #[.int .i64 0, .slice none 0 0, .slice none 0 0, .slice none 0 0, .nilIface] 38)) := ((Ext.refl _).alloc _).alloc _
  have hb := RowC.new 38 (w.alloc (.cells #[.int .i64 k, .slice p1 l1 m1, .slice p2 l2 m2, .slice p3 l3 m3, .nilIface] 38)) [.int .i64 0, .slice none 0 0, .slice none 0 0, .slice none 0 0, .nilIface]
  rw [World.size_alloc] at hb
  change RowC _ ((w.alloc (.cells #[.int .i64 k, .slice p1 l1 m1, .slice p2 l2 m2, .slice p3 l3 m3, .nilIface] 38)).alloc (.cells #[.int .i64 0, .slice none 0 0, .slice none 0 0, .slice none 0 0, .nilIface] 38)) _ _ at hb
  generalize (w.alloc (.cells #[.int .i64 k, .slice p1 l1 m1, .slice p2 l2 m2, .slice p3 l3 m3, .nilIface] 38)).alloc (.cells #[.int .i64 0, .slice none 0 0, .slice none 0 0, .slice none 0 0, .nilIface] 38) = w1 at *
  refine (Fz.clone_any _ _ t _ _ _ _ w1 (Nat.lt_succ_self _) (HA.out.ext hE1)).mono ?_
  rintro e w2 ⟨e0, e1, e2, e3, rfl, hC, hE2⟩
  obtain ⟨k', p1', l1', m1', p2', l2', m2', p3', l3', m3', rfl, rfl, rfl, rfl⟩ := hC.form
  have hb2 := hb.ext hE2
  obtain ⟨x0, x1, x2, x3, x4⟩ := hb2.cell5
  have y0 := hb2.free 0
  have y1 := hb2.free 1
  have y2 := hb2.free 2
  have y3 := hb2.free 3
  have y4 := hb2.free 4
  obtain ⟨g1, g2, g3⟩ := hb2.put5 (hE1.trans hE2) (by omega) (.int .i64 k') (.slice p1' l1' m1') (.slice p2' l2' m2') (.slice p3' l3' m3') .nilIface
  have hbl := hb.lt
  have hle := hE1.lt
  have HG := Lib.hid (And.intro g1 (And.intro g2 (ArrAt.mono (G := fun b => w.heap.size ≤ b ∧ Fz.NoFz (((((w2.setCell ⟨w.heap.size + 1, 0, none⟩ (.int .i64 k')).setCell ⟨w.heap.size + 1, 1, none⟩ (.slice p1' l1' m1')).setCell ⟨w.heap.size + 1, 2, none⟩ (.slice p2' l2' m2')).setCell ⟨w.heap.size + 1, 3, none⟩ (.slice p3' l3' m3')).setCell ⟨w.heap.size + 1, 4, none⟩ .nilIface) b) (w' := (((((w2.setCell ⟨w.heap.size + 1, 0, none⟩ (.int .i64 k')).setCell ⟨w.heap.size + 1, 1, none⟩ (.slice p1' l1' m1')).setCell ⟨w.heap.size + 1, 2, none⟩ (.slice p2' l2' m2')).setCell ⟨w.heap.size + 1, 3, none⟩ (.slice p3' l3' m3')).setCell ⟨w.heap.size + 1, 4, none⟩ .nilIface)) (fun b hb _ => ⟨⟨by have := hb.1; omega, hb.2.kept (g3 b (by have := hb.1; omega))⟩, g3 b (by have := hb.1; omega)⟩) _ _ _ _ _ hC)))
  clear g1 g2 g3 hb hb2 hC hE1 hE2 hle hbl
  go_wp2_with fail
  obtain ⟨g1, g2, g3⟩ := HG.out
  clear HG
  generalize (((((w2.setCell ⟨w.heap.size + 1, 0, none⟩ (.int .i64 k')).setCell ⟨w.heap.size + 1, 1, none⟩ (.slice p1' l1' m1')).setCell ⟨w.heap.size + 1, 2, none⟩ (.slice p2' l2' m2')).setCell ⟨w.heap.size + 1, 3, none⟩ (.slice p3' l3' m3')).setCell ⟨w.heap.size + 1, 4, none⟩ .nilIface) = wz at *
  obtain ⟨z0, z1, z2, z3, z4⟩ := g2.cell5
  refine bodyPost_ret (v := .agg #[.int .i64 k', .slice p1' l1' m1', .slice p2' l2' m2', .slice p3' l3' m3', .nilIface]) ?_ rfl ⟨_, _, _, _, rfl, g3, g1⟩
  simp [results, Try.results71, go_sem, z0, z1, z2, z3, z4]
theorem kept_any (F : Nat → Prop) (t : Arr) (c0 c1 c2 c3 : Value) (w : World) (h : ArrAt F w t c0 c1 c2 c3) :
    Calls Try.prog 71 #[.agg #[c0, c1, c2, c3, .nilIface]] w fun e w' => ∃ e0 e1 e2 e3, e = .returned (.agg #[e0, e1, e2, e3, .nilIface]) ∧ ArrAt (fun b => w.heap.size ≤ b) w' t e0 e1 e2 e3 ∧ Ext w w' := by
  refine (kept_anyF F t c0 c1 c2 c3 w h).mono ?_
  rintro e w' ⟨e0, e1, e2, e3, he, ha, hE⟩
  exact ⟨e0, e1, e2, e3, he, ArrAt.mono (fun _ hx _ => ⟨hx.1, rfl⟩) _ _ _ _ _ ha, hE⟩
set_option maxRecDepth 100000 in
set_option maxHeartbeats 2000000 in
/-- Of a value with a function only the function is kept. -/
theorem kept_fun (k : Int) (p1 p2 p3 : Option Addr) (l1 m1 l2 m2 l3 m3 : Nat) (T : TypeId) (x : Value) (w : World) :
    Calls Try.prog 71 #[.agg #[.int .i64 k, .slice p1 l1 m1, .slice p2 l2 m2, .slice p3 l3 m3, .iface T x]] w fun e w' => e = .returned (.agg #[.int .i64 0, .slice none 0 0, .slice none 0 0, .slice none 0 0, .iface T x]) ∧ Ext w w' := by
  go_enter Try.func71, Try.ntmps71
  go_upto_region 1 with (fail)
  have hE1 : Ext w ((w.alloc (.cells #[.int .i64 k, .slice p1 l1 m1, .slice p2 l2 m2, .slice p3 l3 m3, .iface T x] 38)).alloc (.cells #[.int .i64 0, .slice none 0 0, .slice none 0 0, .slice none 0 0, .nilIface] 38)) := ((Ext.refl _).alloc _).alloc _
  have ha := (RowC.new 38 w [.int .i64 k, .slice p1 l1 m1, .slice p2 l2 m2, .slice p3 l3 m3, .iface T x]).ext ((Ext.refl _).alloc (.cells #[.int .i64 0, .slice none 0 0, .slice none 0 0, .slice none 0 0, .nilIface] 38))
  have hb := RowC.new 38 (w.alloc (.cells #[.int .i64 k, .slice p1 l1 m1, .slice p2 l2 m2, .slice p3 l3 m3, .iface T x] 38)) [.int .i64 0, .slice none 0 0, .slice none 0 0, .slice none 0 0, .nilIface]
  rw [World.size_alloc] at hb
  change RowC _ ((w.alloc (.cells #[.int .i64 k, .slice p1 l1 m1, .slice p2 l2 m2, .slice p3 l3 m3, .iface T x] 38)).alloc (.cells #[.int .i64 0, .slice none 0 0, .slice none 0 0, .slice none 0 0, .nilIface] 38)) _ _ at hb ha
  generalize (w.alloc (.cells #[.int .i64 k, .slice p1 l1 m1, .slice p2 l2 m2, .slice p3 l3 m3, .iface T x] 38)).alloc (.cells #[.int .i64 0, .slice none 0 0, .slice none 0 0, .slice none 0 0, .nilIface] 38) = w2 at *
  obtain ⟨a0, a1, a2, a3, a4⟩ := ha.cell5
  obtain ⟨x0, x1, x2, x3, x4⟩ := hb.cell5
  have y0 := hb.free 0
  have y1 := hb.free 1
  have y2 := hb.free 2
  have y3 := hb.free 3
  have y4 := hb.free 4
  obtain ⟨g1, g2, g3⟩ := hb.put5 hE1 (by omega) (.int .i64 0) (.slice none 0 0) (.slice none 0 0) (.slice none 0 0) (.iface T x)
  have HG := Lib.hid (And.intro g1 g2)
  clear g1 g2 g3 ha hb hE1
  go_wp2_with fail
  obtain ⟨g1, g2⟩ := HG.out
  clear HG
  generalize (((((w2.setCell ⟨w.heap.size + 1, 0, none⟩ (.int .i64 0)).setCell ⟨w.heap.size + 1, 1, none⟩ (.slice none 0 0)).setCell ⟨w.heap.size + 1, 2, none⟩ (.slice none 0 0)).setCell ⟨w.heap.size + 1, 3, none⟩ (.slice none 0 0)).setCell ⟨w.heap.size + 1, 4, none⟩ (.iface T x)) = wz at *
  obtain ⟨z0, z1, z2, z3, z4⟩ := g2.cell5
  refine bodyPost_ret (v := .agg #[.int .i64 0, .slice none 0 0, .slice none 0 0, .slice none 0 0, .iface T x]) ?_ rfl ⟨rfl, g1⟩
  simp [results, Try.results71, go_sem, z0, z1, z2, z3, z4]
end Go.Proofs.Ytgkemmdghmklfaa
