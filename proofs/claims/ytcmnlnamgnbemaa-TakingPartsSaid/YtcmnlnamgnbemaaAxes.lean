/-
  THE WALK of transposing.Axes.
-/
import Derived.Test.YtcmnlnamgnbemaaAxesLaw
namespace Go.Proofs.Ytcmnlnamgnbemaa
set_option linter.unusedSimpArgs false
set_option linter.unusedVariables false
open Go.RowKit

def Arr.zero : Arr := .mk 0 [] [] []
theorem Arr.zero_at (F : Nat → Prop) (w : World) : ArrAt F w Arr.zero (.int .i64 0) (.slice none 0 0) (.slice none 0 0) (.slice none 0 0) := by
  unfold Arr.zero ArrAt
  exact ⟨rfl, by omega, ⟨none, 0, rfl, ⟨by simp, by simp, by simp⟩, fun i hi => by simp at hi⟩, ⟨none, 0, rfl, ⟨by simp, by simp, by simp⟩, fun i hi => by simp at hi⟩, ⟨none, 0, rfl, ⟨by simp, by simp, by simp⟩, by unfold ItemsAt; trivial⟩⟩

/-- A store of a whole struct into its box. -/
theorem Box4.put4 {w0 w : World} {b : Nat} {c0 c1 c2 c3 : Value} (h : Box4 w b c0 c1 c2 c3) (hE : Ext w0 w) (hb : w0.heap.size ≤ b) (v0 v1 v2 v3 : Value) :
    Ext w0 ((((w.setCell ⟨b, 0, none⟩ v0).setCell ⟨b, 1, none⟩ v1).setCell ⟨b, 2, none⟩ v2).setCell ⟨b, 3, none⟩ v3) ∧
    Box4 ((((w.setCell ⟨b, 0, none⟩ v0).setCell ⟨b, 1, none⟩ v1).setCell ⟨b, 2, none⟩ v2).setCell ⟨b, 3, none⟩ v3) b v0 v1 v2 v3 ∧
    ∀ x, x ≠ b → ((((w.setCell ⟨b, 0, none⟩ v0).setCell ⟨b, 1, none⟩ v1).setCell ⟨b, 2, none⟩ v2).setCell ⟨b, 3, none⟩ v3).heap[x]? = w.heap[x]? :=
  ⟨(((hE.setCell (p := ⟨b, 0, none⟩) hb _).setCell (p := ⟨b, 1, none⟩) hb _).setCell (p := ⟨b, 2, none⟩) hb _).setCell (p := ⟨b, 3, none⟩) hb _,
    (((h.set0 _).set1 _).set2 _).set3 _, fun x hx => by rw [Below.heap_setCell _ _ _ _ hx, Below.heap_setCell _ _ _ _ hx, Below.heap_setCell _ _ _ _ hx, Below.heap_setCell _ _ _ _ hx]⟩

/-- Axes, as a function. -/
def axesV (x y : Arr) : Arr × Int :=
  if wrongV x y ≠ 0 then (Arr.zero, wrongV x y) else
  match x, y with
  | .mk _ _ nx _, .mk ky sy ny iy => if ((dimsGo nx sy []).any fun d => -1 == d) = true then (Arr.zero, 17) else (movedV nx (.mk ky sy ny iy) (dimsGo nx sy []), 0)

theorem wrong_parts {kx ky : Int} {sx nx sy ny : List Int} {ix iy : List Arr} (h : wrongV (.mk kx sx nx ix) (.mk ky sy ny iy) = 0) :
    rightV (.mk ky sy ny iy) = 0 ∧ nx.length = sy.length ∧ ∀ j, j < nx.length → 0 ≤ nx.getD j 0 ∧ nx.getD j 0 < sy.length := by
  have h2 : (if rightV (.mk kx sx nx ix) ≠ 0 ∨ rightV (.mk ky sy ny iy) ≠ 0 then 1 else if kx ≠ 1 then 14 else if 1 < sx.length then 15 else if nx.length ≠ sy.length then 16 else if nx.any (outR sy.length) = true then 18 else (0 : Int)) = 0 := h
  split at h2
  · cases h2
  · split at h2
    · cases h2
    · split at h2
      · cases h2
      · split at h2
        · cases h2
        · split at h2
          · cases h2
          · rename_i h3 h4 h5 h6 h7
            refine ⟨by by_cases hq : rightV (.mk ky sy ny iy) = 0; exact hq; exact absurd (.inr hq) h3, by by_cases hq : nx.length = sy.length; exact hq; exact absurd hq h6, fun j hj => ?_⟩
            have hm : ¬ outR sy.length nx[j] = true := fun hc => h7 (List.any_eq_true.2 ⟨_, List.getElem_mem hj, hc⟩)
            have he : nx.getD j 0 = nx[j] := by simp [List.getD, hj]
            rw [he]
            simp [outR] at hm
            exact hm

set_option maxRecDepth 100000 in
set_option maxHeartbeats 4000000 in
/-- transposing.Axes. -/
theorem axes_any (F G : Nat → Prop) (x y : Arr) (c0 c1 c2 c3 d0 d1 d2 d3 : Value) (w : World) (hx : ArrAt F w x c0 c1 c2 c3) (hy : ArrAt G w y d0 d1 d2 d3) :
    Calls Try.prog 33 #[.agg #[c0, c1, c2, c3], .agg #[d0, d1, d2, d3]] w fun e w' =>
      ∃ e0 e1 e2 e3, e = .returned (.tuple #[.agg #[e0, e1, e2, e3], .int .i64 (axesV x y).2]) ∧ ArrAt (fun b => w.heap.size ≤ b) w' (axesV x y).1 e0 e1 e2 e3 ∧ Ext w w' := by
  obtain ⟨kx, sx, nx, ix⟩ := x
  obtain ⟨ky, sy, ny, iy⟩ := y
  have hx' := hx
  have hy' := hy
  unfold ArrAt at hx' hy'
  obtain ⟨rfl, hkx, ⟨q1, m1, rfl, ⟨o1, o1', o1''⟩, i1⟩, ⟨q2, m2, rfl, ⟨o2, o2', o2''⟩, i2⟩, ⟨q3, m3, rfl, ⟨o3, o3', o3''⟩, i3⟩⟩ := hx'
  obtain ⟨rfl, hky, ⟨r1, n1, rfl, ⟨p1, p1', p1''⟩, j1⟩, ⟨r2, n2, rfl, ⟨p2, p2', p2''⟩, j2⟩, ⟨r3, n3, rfl, ⟨p3, p3', p3''⟩, j3⟩⟩ := hy'
  have HX := Lib.hid hx
  have HY := Lib.hid hy
  have HN := Lib.hid i2
  have HS := Lib.hid j1
  clear hx hy i1 i2 i3 j1 j2 j3
  generalize hres : axesV (.mk kx sx nx ix) (.mk ky sy ny iy) = res
  have HR : Hid ((if wrongV (.mk kx sx nx ix) (.mk ky sy ny iy) ≠ 0 then (Arr.zero, wrongV (.mk kx sx nx ix) (.mk ky sy ny iy)) else if ((dimsGo nx sy []).any fun d => -1 == d) = true then (Arr.zero, 17) else (movedV nx (.mk ky sy ny iy) (dimsGo nx sy []), 0)) = res) := by
    show _ = _
    rw [← hres]; rfl
  clear hres
  go_enter Try.func33, Try.ntmps33
  go_wp2_with fail
  have hE0 : Ext w (((w.alloc (.cells #[.int .i64 kx, .slice q1 sx.length m1, .slice q2 nx.length m2, .slice q3 ix.length m3] 26)).alloc (.cells #[.int .i64 ky, .slice r1 sy.length n1, .slice r2 ny.length n2, .slice r3 iy.length n3] 26)).alloc (.cells #[.int .i64 0, .slice none 0 0, .slice none 0 0, .slice none 0 0] 26)) := (((Ext.refl _).alloc _).alloc _).alloc _
  have hB1 := ((box_new w (.int .i64 kx) (.slice q1 sx.length m1) (.slice q2 nx.length m2) (.slice q3 ix.length m3)).ext ((Ext.refl _).alloc (.cells #[.int .i64 ky, .slice r1 sy.length n1, .slice r2 ny.length n2, .slice r3 iy.length n3] 26))).ext ((Ext.refl _).alloc (.cells #[.int .i64 0, .slice none 0 0, .slice none 0 0, .slice none 0 0] 26))
  have hB2 := (box_new (w.alloc (.cells #[.int .i64 kx, .slice q1 sx.length m1, .slice q2 nx.length m2, .slice q3 ix.length m3] 26)) (.int .i64 ky) (.slice r1 sy.length n1) (.slice r2 ny.length n2) (.slice r3 iy.length n3)).ext ((Ext.refl _).alloc (.cells #[.int .i64 0, .slice none 0 0, .slice none 0 0, .slice none 0 0] 26))
  have hB3 := box_new ((w.alloc (.cells #[.int .i64 kx, .slice q1 sx.length m1, .slice q2 nx.length m2, .slice q3 ix.length m3] 26)).alloc (.cells #[.int .i64 ky, .slice r1 sy.length n1, .slice r2 ny.length n2, .slice r3 iy.length n3] 26)) (.int .i64 0) (.slice none 0 0) (.slice none 0 0) (.slice none 0 0)
  rw [World.size_alloc] at hB2
  rw [World.size_alloc, World.size_alloc] at hB3
  generalize ((w.alloc (.cells #[.int .i64 kx, .slice q1 sx.length m1, .slice q2 nx.length m2, .slice q3 ix.length m3] 26)).alloc (.cells #[.int .i64 ky, .slice r1 sy.length n1, .slice r2 ny.length n2, .slice r3 iy.length n3] 26)).alloc (.cells #[.int .i64 0, .slice none 0 0, .slice none 0 0, .slice none 0 0] 26) = w1 at hE0 hB1 hB2 hB3 ⊢
  refine (wrong_any F G _ _ _ _ _ _ _ _ _ _ w1 (HX.out.ext hE0) (HY.out.ext hE0)).mono ?_
  rintro e w2 ⟨rfl, hE1⟩
  replace hB1 := hB1.ext hE1
  replace hB2 := hB2.ext hE1
  replace hB3 := hB3.ext hE1
  have hE2 := hE0.trans hE1
  clear hE0 hE1
  have hlt2 := hB3.lt
  obtain ⟨s0, s1, s2, s3⟩ := hB1.cell
  obtain ⟨t0, t1, t2, t3⟩ := hB2.cell
  obtain ⟨x0, x1, x2, x3⟩ := hB3.cell
  have y0 := hB3.free 0
  have y1 := hB3.free 1
  have y2 := hB3.free 2
  have y3 := hB3.free 3
  by_cases hw : wrongV (.mk kx sx nx ix) (.mk ky sy ny iy) = 0
  · have hR1 := HR.out
    rw [if_neg (by simp [hw])] at hR1
    obtain ⟨hr, hln, hax⟩ := wrong_parts hw
    have HRT := Lib.hid hr
    have HLN := Lib.hid hln
    have HAX := Lib.hid hax
    have HR1 := Lib.hid hR1
    rw [hw]
    clear hR1 HR hw hr hln hax
    obtain ⟨_, h8, hgo, _, _⟩ := right_parts HRT.out
    have HGO := Lib.hid hgo
    clear hgo
    go_wp2_with fail
    refine (dims_any F G q2 r1 m2 n1 nx sy w2 8 (by omega) (HN.out.ext hE2) (HS.out.ext hE2) (by rw [HLN.out]; omega) (by unfold lenMax; omega) (fun j hj => by have := HAX.out j hj; omega)).mono ?_
    rintro e w3 ⟨ps, cs, rfl, hsk, hsi, hE3⟩
    have hE4 := hE2.trans hE3
    replace hB1 := hB1.ext hE3
    replace hB2 := hB2.ext hE3
    replace hB3 := hB3.ext hE3
    clear s0 s1 s2 s3 t0 t1 t2 t3 x0 x1 x2 x3 y0 y1 y2 y3
    obtain ⟨s0, s1, s2, s3⟩ := hB1.cell
    obtain ⟨t0, t1, t2, t3⟩ := hB2.cell
    obtain ⟨x0, x1, x2, x3⟩ := hB3.cell
    have y0 := hB3.free 0
    have y1 := hB3.free 1
    have y2 := hB3.free 2
    have y3 := hB3.free 3
    have HFIT := Lib.hid (dims_fit HLN.out (fun j hj => (HAX.out j hj).1) (fun y hy => (rightGo_nonneg sy 1 HGO.out y hy).1))
    have HLE := Lib.hid (dimsGo_len_le nx sy [] 8 (fun j hj => by have := HAX.out j hj; omega) (by simp))
    generalize hds : dimsGo nx sy [] = ds at *
    have HDS := Lib.hid hds
    clear hds
    have hle : ds.length ≤ 8 := HLE.out
    go_wp2_with fail
    refine (contains_any _ ps cs ds (-1) w3 hsi (by unfold lenMax; omega)).mono ?_
    rintro e w3' ⟨rfl, rfl⟩
    by_cases hc : (ds.any fun d => -1 == d) = true
    · have hR1 := HR1.out
      rw [if_pos hc] at hR1
      subst hR1
      rw [hc]
      go_wp2_with fail
      obtain ⟨g1, g2, g3⟩ := hB3.put4 hE4 (by omega) (.int .i64 0) (.slice none 0 0) (.slice none 0 0) (.slice none 0 0)
      revert g1 g2 g3
      generalize ((((w3.setCell ⟨w.heap.size + 1 + 1, 0, none⟩ (.int .i64 0)).setCell ⟨w.heap.size + 1 + 1, 1, none⟩ (.slice none 0 0)).setCell ⟨w.heap.size + 1 + 1, 2, none⟩ (.slice none 0 0)).setCell ⟨w.heap.size + 1 + 1, 3, none⟩ (.slice none 0 0)) = w9
      intro g1 g2 g3
      obtain ⟨z0, z1, z2, z3⟩ := g2.cell
      refine bodyPost_ret (v := .tuple #[.agg #[(.int .i64 0), (.slice none 0 0), (.slice none 0 0), (.slice none 0 0)], .int .i64 17]) ?_ rfl ⟨_, _, _, _, rfl, Arr.zero_at _ _, g1⟩
      simp [results, Try.results33, go_sem, z0, z1, z2, z3]
    · have hR1 := HR1.out
      rw [if_neg hc] at hR1
      have HRES := Lib.hid hR1
      rw [Bool.eq_false_iff.2 hc]
      clear hR1 HR1 hc
      go_wp2_with fail
      refine (moved_any F _ G q2 ps m2 cs nx ds _ _ _ _ _ w3 (HN.out.ext hE4) hsi hsk (HY.out.ext hE4) (by unfold lenMax; omega) (fun _ _ _ _ he => by cases he; exact HFIT.out) HRT.out).mono ?_
      rintro e w4 ⟨k0, k1, k2, k3, rfl, hA, hE5⟩
      obtain ⟨kr, u1, v1, z1, u2, v2, z2, u3, v3, z3, rfl, rfl, rfl, rfl⟩ := hA.form
      have hE6 := hE4.trans hE5
      replace hB3 := hB3.ext hE5
      clear x0 x1 x2 x3 y0 y1 y2 y3
      obtain ⟨x0, x1, x2, x3⟩ := hB3.cell
      have y0 := hB3.free 0
      have y1 := hB3.free 1
      have y2 := hB3.free 2
      have y3 := hB3.free 3
      have hlt3 := hE3.lt
      go_wp2_with fail
      obtain ⟨g1, g2, g3⟩ := hB3.put4 hE6 (by omega) (.int .i64 kr) (.slice u1 v1 z1) (.slice u2 v2 z2) (.slice u3 v3 z3)
      revert g1 g2 g3
      generalize ((((w4.setCell ⟨w.heap.size + 1 + 1, 0, none⟩ (.int .i64 kr)).setCell ⟨w.heap.size + 1 + 1, 1, none⟩ (.slice u1 v1 z1)).setCell ⟨w.heap.size + 1 + 1, 2, none⟩ (.slice u2 v2 z2)).setCell ⟨w.heap.size + 1 + 1, 3, none⟩ (.slice u3 v3 z3)) = w9
      intro g1 g2 g3
      obtain ⟨z0', z1', z2', z3'⟩ := g2.cell
      have hA9 := ArrAt.mono (G := fun b => w.heap.size ≤ b) (w' := w9) (fun b hb _ => ⟨by rcases hb with hb | hb <;> omega, g3 b (by rcases hb with hb | hb <;> omega)⟩) _ _ _ _ _ hA
      refine bodyPost_ret (v := .tuple #[.agg #[(.int .i64 kr), (.slice u1 v1 z1), (.slice u2 v2 z2), (.slice u3 v3 z3)], .int .i64 0]) ?_ rfl ⟨_, _, _, _, by rw [← HRES.out], by rw [← HRES.out]; exact hA9, g1⟩
      simp [results, Try.results33, go_sem, z0', z1', z2', z3']
  · have hR1 := HR.out
    rw [if_pos hw] at hR1
    subst hR1
    generalize hrv : wrongV (.mk kx sx nx ix) (.mk ky sy ny iy) = rv at *
    have HRV := Lib.hid hrv
    clear hrv
    go_wp2_with fail
    obtain ⟨g1, g2, g3⟩ := hB3.put4 hE2 (by omega) (.int .i64 0) (.slice none 0 0) (.slice none 0 0) (.slice none 0 0)
    revert g1 g2 g3
    generalize ((((w2.setCell ⟨w.heap.size + 1 + 1, 0, none⟩ (.int .i64 0)).setCell ⟨w.heap.size + 1 + 1, 1, none⟩ (.slice none 0 0)).setCell ⟨w.heap.size + 1 + 1, 2, none⟩ (.slice none 0 0)).setCell ⟨w.heap.size + 1 + 1, 3, none⟩ (.slice none 0 0)) = w9
    intro g1 g2 g3
    obtain ⟨z0, z1, z2, z3⟩ := g2.cell
    refine bodyPost_ret (v := .tuple #[.agg #[(.int .i64 0), (.slice none 0 0), (.slice none 0 0), (.slice none 0 0)], .int .i64 rv]) ?_ rfl ⟨_, _, _, _, by rw [HRV.out], Arr.zero_at _ _, g1⟩
    simp [results, Try.results33, go_sem, z0, z1, z2, z3]
end Go.Proofs.Ytcmnlnamgnbemaa
