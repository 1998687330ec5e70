/-
  THE WALK of ref06.Less. (Cut out of XROrdB by split_less.py.)
-/
import Derived.Test.YtgkemmdghmklfaaOrdM
import Derived.Test.YtgkemmdghmklfaaOrdB
import Derived.Test.YtgkemmdghmklfaaROrdB
namespace Go.Proofs.Ytgkemmdghmklfaa
set_option linter.unusedSimpArgs false
set_option linter.unusedVariables false
open Go.RowKit

set_option maxRecDepth 100000 in
set_option maxHeartbeats 2000000 in
theorem olessm_any (m : Nat) (F G : Nat → Prop) (x y : Arr) (c0 c1 c2 c3 d0 d1 d2 d3 : Value) (w : World) (hx : ArrAt F w x c0 c1 c2 c3) (hy : ArrAt G w y d0 d1 d2 d3) (hm : szA x < m) :
    Calls Try.prog 53 #[.agg #[c0, c1, c2, c3], .agg #[d0, d1, d2, d3]] w fun e w' => e = .returned (.bool (decide (ocmpM m x y < 0))) ∧ Ext w w' := by
  obtain ⟨kx, sx, nx, ix⟩ := x
  obtain ⟨ky, sy, ny, iy⟩ := y
  have hx' := hx
  have hy' := hy
  unfold ArrAt at hx' hy'
  obtain ⟨rfl, hkx, ⟨p1, m1, rfl, ⟨o1, o1', o1''⟩, i1⟩, ⟨p2, m2, rfl, ⟨o2, o2', o2''⟩, i2⟩, ⟨p3, m3, rfl, ⟨o3, o3', o3''⟩, i3⟩⟩ := hx'
  obtain ⟨rfl, hky, ⟨q1, n1, rfl, ⟨r1, r1', r1''⟩, j1⟩, ⟨q2, n2, rfl, ⟨r2, r2', r2''⟩, j2⟩, ⟨q3, n3, rfl, ⟨r3, r3', r3''⟩, j3⟩⟩ := hy'
  have HX := Lib.hid hx
  have HY := Lib.hid hy
  have HSX := Lib.hid i1
  have HSY := Lib.hid j1
  clear hx hy i1 i2 i3 j1 j2 j3
  have HCM := Lib.hid (fun (w' : World) (e : Ext w w') => ocomparem_any m F G (.mk kx sx nx ix) (.mk ky sy ny iy) _ _ _ _ _ _ _ _ w' (HX.out.ext e) (HY.out.ext e) hm)
  generalize ocmpM m (.mk kx sx nx ix) (.mk ky sy ny iy) = ov at *
  go_enter Try.func53, Try.ntmps53
  have hE0 : Ext w ((w.alloc (.cells #[.int .i64 kx, .slice p1 sx.length m1, .slice p2 nx.length m2, .slice p3 ix.length m3] 26)).alloc (.cells #[.int .i64 ky, .slice q1 sy.length n1, .slice q2 ny.length n2, .slice q3 iy.length n3] 26)) := ((Ext.refl _).alloc _).alloc _
  go_wp2_with fail
  refine (HCM.out _ hE0).mono ?_
  rintro e w4 ⟨rfl, hE1⟩
  have hE2 := hE0.trans hE1
  clear hE0 hE1 HCM
  go_wp2_with fail
  go_ret
  exact ⟨rfl, hE2⟩

theorem olessm_rd {w : World} {a b : Arr} {v1 v2 : Value} (m : Nat) (hm : szA a < m) (ha : rightV a = 0) (hb : rightV b = 0) {n : Bool} (ex : decide (cmpF m a b < 0) = n) (h1 : Rd w a v1) (h2 : Rd w b v2) : Calls Try.prog 53 #[v1, v2] w fun e w' => e = .returned (.bool n) ∧ Ext w w' := by
  obtain ⟨F, c0, c1, c2, c3, rfl, hA⟩ := h1
  obtain ⟨G, d0, d1, d2, d3, rfl, hB⟩ := h2
  have h := olessm_any m F G a b _ _ _ _ _ _ _ _ w hA hB hm
  rw [ocmpM, if_neg (by rw [ha, hb]; simp), ex] at h
  exact h
end Go.Proofs.Ytgkemmdghmklfaa

namespace Go.Proofs.Ytgkemmdghmklfaa
set_option linter.unusedSimpArgs false
set_option linter.unusedVariables false
open Go.RowKit

set_option maxRecDepth 100000 in
set_option maxHeartbeats 2000000 in
theorem oless_any (F G : Nat → Prop) (x y : Arr) (c0 c1 c2 c3 d0 d1 d2 d3 : Value) (w : World) (hx : ArrAt F w x c0 c1 c2 c3) (hy : ArrAt G w y d0 d1 d2 d3) :
    Calls Try.prog 53 #[.agg #[c0, c1, c2, c3], .agg #[d0, d1, d2, d3]] w fun e w' => e = .returned (.bool (decide (ocmpV x y < 0))) ∧ Ext w w' := by
  obtain ⟨kx, sx, nx, ix⟩ := x
  obtain ⟨ky, sy, ny, iy⟩ := y
  have hx' := hx
  have hy' := hy
  unfold ArrAt at hx' hy'
  obtain ⟨rfl, hkx, ⟨p1, m1, rfl, ⟨o1, o1', o1''⟩, i1⟩, ⟨p2, m2, rfl, ⟨o2, o2', o2''⟩, i2⟩, ⟨p3, m3, rfl, ⟨o3, o3', o3''⟩, i3⟩⟩ := hx'
  obtain ⟨rfl, hky, ⟨q1, n1, rfl, ⟨r1, r1', r1''⟩, j1⟩, ⟨q2, n2, rfl, ⟨r2, r2', r2''⟩, j2⟩, ⟨q3, n3, rfl, ⟨r3, r3', r3''⟩, j3⟩⟩ := hy'
  have HX := Lib.hid hx
  have HY := Lib.hid hy
  have HSX := Lib.hid i1
  have HSY := Lib.hid j1
  clear hx hy i1 i2 i3 j1 j2 j3
  have HCM := Lib.hid (fun (w' : World) (e : Ext w w') => ocompare_any F G (.mk kx sx nx ix) (.mk ky sy ny iy) _ _ _ _ _ _ _ _ w' (HX.out.ext e) (HY.out.ext e))
  generalize ocmpV (.mk kx sx nx ix) (.mk ky sy ny iy) = ov at *
  go_enter Try.func53, Try.ntmps53
  have hE0 : Ext w ((w.alloc (.cells #[.int .i64 kx, .slice p1 sx.length m1, .slice p2 nx.length m2, .slice p3 ix.length m3] 26)).alloc (.cells #[.int .i64 ky, .slice q1 sy.length n1, .slice q2 ny.length n2, .slice q3 iy.length n3] 26)) := ((Ext.refl _).alloc _).alloc _
  go_wp2_with fail
  refine (HCM.out _ hE0).mono ?_
  rintro e w4 ⟨rfl, hE1⟩
  have hE2 := hE0.trans hE1
  clear hE0 hE1 HCM
  go_wp2_with fail
  go_ret
  exact ⟨rfl, hE2⟩

end Go.Proofs.Ytgkemmdghmklfaa

namespace Go.Proofs.Ytgkemmdghmklfaa
set_option linter.unusedSimpArgs false
set_option linter.unusedVariables false
open Go.RowKit

set_option maxRecDepth 100000 in
set_option maxHeartbeats 2000000 in
theorem roless_any (F G : Nat → Prop) (x y : Arr) (c0 c1 c2 c3 d0 d1 d2 d3 : Value) (w : World) (hx : ArrAt F w x c0 c1 c2 c3) (hy : ArrAt G w y d0 d1 d2 d3) :
    Calls Try.prog 54 #[.agg #[c0, c1, c2, c3], .agg #[d0, d1, d2, d3]] w fun e w' => e = .returned (.bool (decide (ocmpV x y < 0))) ∧ Ext w w' := by
  obtain ⟨kx, sx, nx, ix⟩ := x
  obtain ⟨ky, sy, ny, iy⟩ := y
  have hx' := hx
  have hy' := hy
  unfold ArrAt at hx' hy'
  obtain ⟨rfl, hkx, ⟨p1, m1, rfl, ⟨o1, o1', o1''⟩, i1⟩, ⟨p2, m2, rfl, ⟨o2, o2', o2''⟩, i2⟩, ⟨p3, m3, rfl, ⟨o3, o3', o3''⟩, i3⟩⟩ := hx'
  obtain ⟨rfl, hky, ⟨q1, n1, rfl, ⟨r1, r1', r1''⟩, j1⟩, ⟨q2, n2, rfl, ⟨r2, r2', r2''⟩, j2⟩, ⟨q3, n3, rfl, ⟨r3, r3', r3''⟩, j3⟩⟩ := hy'
  have HX := Lib.hid hx
  have HY := Lib.hid hy
  have HSX := Lib.hid i1
  have HSY := Lib.hid j1
  clear hx hy i1 i2 i3 j1 j2 j3
  have HCM := Lib.hid (fun (w' : World) (e : Ext w w') => rocompare_any F G (.mk kx sx nx ix) (.mk ky sy ny iy) _ _ _ _ _ _ _ _ w' (HX.out.ext e) (HY.out.ext e))
  generalize ocmpV (.mk kx sx nx ix) (.mk ky sy ny iy) = ov at *
  go_enter Try.func54, Try.ntmps54
  have hE0 : Ext w ((w.alloc (.cells #[.int .i64 kx, .slice p1 sx.length m1, .slice p2 nx.length m2, .slice p3 ix.length m3] 26)).alloc (.cells #[.int .i64 ky, .slice q1 sy.length n1, .slice q2 ny.length n2, .slice q3 iy.length n3] 26)) := ((Ext.refl _).alloc _).alloc _
  go_wp2_with fail
  refine (HCM.out _ hE0).mono ?_
  rintro e w4 ⟨rfl, hE1⟩
  have hE2 := hE0.trans hE1
  clear hE0 hE1 HCM
  go_wp2_with fail
  go_ret
  exact ⟨rfl, hE2⟩

end Go.Proofs.Ytgkemmdghmklfaa
