/-
  THE WALKS of order.Compare and Less, at whatever fuel. (Printed by gen_ordeq.py M.)
-/
import Derived.Test.YtgkemmdghmklfaaOrdLaw
namespace Go.Proofs.Ytgkemmdghmklfaa
set_option linter.unusedSimpArgs false
set_option linter.unusedVariables false
open Go.RowKit

/-- order.Compare and Less. -/
def ocmpM (m : Nat) (x y : Arr) : Int := if rightV x ≠ 0 ∨ rightV y ≠ 0 then 0 else cmpF m x y
set_option maxRecDepth 100000 in
set_option maxHeartbeats 2000000 in
theorem ocomparem_any (m : Nat) (F G : Nat → Prop) (x y : Arr) (c0 c1 c2 c3 d0 d1 d2 d3 : Value) (w : World) (hx : ArrAt F w x c0 c1 c2 c3) (hy : ArrAt G w y d0 d1 d2 d3) (hm : szA x < m) :
    Calls Try.prog 52 #[.agg #[c0, c1, c2, c3], .agg #[d0, d1, d2, d3]] w fun e w' => e = .returned (.int .i64 (ocmpM m x y)) ∧ Ext w w' := by
  obtain ⟨kx, sx, nx, ix⟩ := x
  obtain ⟨ky, sy, ny, iy⟩ := y
  have hx' := hx
  have hy' := hy
  unfold ArrAt at hx' hy'
  obtain ⟨rfl, hkx, ⟨p1, m1, rfl, ⟨o1, o1', o1''⟩, i1⟩, ⟨p2, m2, rfl, ⟨o2, o2', o2''⟩, i2⟩, ⟨p3, m3, rfl, ⟨o3, o3', o3''⟩, i3⟩⟩ := hx'
  obtain ⟨rfl, hky, ⟨q1, n1, rfl, ⟨r1, r1', r1''⟩, j1⟩, ⟨q2, n2, rfl, ⟨r2, r2', r2''⟩, j2⟩, ⟨q3, n3, rfl, ⟨r3, r3', r3''⟩, j3⟩⟩ := hy'
  have HX := Lib.hid hx
  have HY := Lib.hid hy
  have HSX := Lib.hid i1
  have HSY := Lib.hid j1
  clear hx hy i1 i2 i3 j1 j2 j3
  have HV : Hid (ocmpM m (.mk kx sx nx ix) (.mk ky sy ny iy) = if rightV (.mk kx sx nx ix) ≠ 0 ∨ rightV (.mk ky sy ny iy) ≠ 0 then 0 else cmpF m (.mk kx sx nx ix) (.mk ky sy ny iy)) := rfl
  generalize ocmpM m (.mk kx sx nx ix) (.mk ky sy ny iy) = ov at *
  have HCM := Lib.hid (fun (w' : World) (e : Ext w w') => compare_any F G m (.mk kx sx nx ix) (.mk ky sy ny iy) _ _ _ _ _ _ _ _ w' hm (HX.out.ext e) (HY.out.ext e))
  go_enter Try.func52, Try.ntmps52
  go_wp2_with fail
  have hE0 : Ext w ((w.alloc (.cells #[.int .i64 kx, .slice p1 sx.length m1, .slice p2 nx.length m2, .slice p3 ix.length m3] 26)).alloc (.cells #[.int .i64 ky, .slice q1 sy.length n1, .slice q2 ny.length n2, .slice q3 iy.length n3] 26)) := ((Ext.refl _).alloc _).alloc _
  have hBX := (box_new w (.int .i64 kx) (.slice p1 sx.length m1) (.slice p2 nx.length m2) (.slice p3 ix.length m3)).ext ((Ext.refl _).alloc (.cells #[.int .i64 ky, .slice q1 sy.length n1, .slice q2 ny.length n2, .slice q3 iy.length n3] 26))
  have hBY := box_new (w.alloc (.cells #[.int .i64 kx, .slice p1 sx.length m1, .slice p2 nx.length m2, .slice p3 ix.length m3] 26)) (.int .i64 ky) (.slice q1 sy.length n1) (.slice q2 ny.length n2) (.slice q3 iy.length n3)
  rw [World.size_alloc] at hBY
  generalize ((w.alloc (.cells #[.int .i64 kx, .slice p1 sx.length m1, .slice p2 nx.length m2, .slice p3 ix.length m3] 26)).alloc (.cells #[.int .i64 ky, .slice q1 sy.length n1, .slice q2 ny.length n2, .slice q3 iy.length n3] 26)) = w1 at hE0 hBX hBY ⊢
  refine (right_any F _ _ _ _ _ w1 (HX.out.ext hE0)).mono ?_
  rintro e w2 ⟨rfl, hE1⟩
  have HBX := Lib.hid (hBX.ext hE1)
  have HBY := Lib.hid (hBY.ext hE1)
  have HE := Lib.hid (hE0.trans hE1)
  clear hBX hBY hE0 hE1
  generalize hr1 : rightV (.mk kx sx nx ix) = r1 at *
  by_cases h1 : r1 = 0
  rotate_left
  · have h1' : (r1 != 0) = true := by simpa using h1
    have HV2 := Lib.hid (show ov = 0 by rw [HV.out, if_pos (.inl h1)])
    clear h1
    go_wp2_with fail
    go_ret
    exact ⟨ret_int HV2.out.symm, HE.out⟩
  subst h1
  obtain ⟨t0, t1, t2, t3⟩ := HBY.out.cell
  go_wp2_with fail
  refine (right_any G _ _ _ _ _ w2 (HY.out.ext HE.out)).mono ?_
  rintro e w3 ⟨rfl, hE1⟩
  clear t0 t1 t2 t3
  replace HBX := Lib.hid (HBX.out.ext hE1)
  replace HBY := Lib.hid (HBY.out.ext hE1)
  replace HE := Lib.hid (HE.out.trans hE1)
  clear hE1
  generalize hr2 : rightV (.mk ky sy ny iy) = r2 at *
  by_cases h2 : r2 = 0
  rotate_left
  · have h2' : (r2 != 0) = true := by simpa using h2
    have HV2 := Lib.hid (show ov = 0 by rw [HV.out, if_pos (.inr h2)])
    clear h2
    go_wp2_with fail
    go_ret
    exact ⟨ret_int HV2.out.symm, HE.out⟩
  subst h2
  have HV2 := Lib.hid (show ov = cmpF m (.mk kx sx nx ix) (.mk ky sy ny iy) by rw [HV.out, if_neg (by simp)])
  have HCM2 := Lib.hid (HCM.out w3 HE.out (by simp) (by simp))
  clear HV HCM
  obtain ⟨s0, s1, s2, s3⟩ := HBX.out.cell
  obtain ⟨t0, t1, t2, t3⟩ := HBY.out.cell
  go_wp2_with fail
  refine HCM2.out.mono ?_
  rintro e w4 ⟨rfl, hE1⟩
  have hE2 := HE.out.trans hE1
  clear s0 s1 s2 s3 t0 t1 t2 t3 hE1
  go_wp2_with fail
  go_ret
  exact ⟨ret_int HV2.out.symm, hE2⟩
theorem ocmpm_rd {w : World} {a b : Arr} {v1 v2 : Value} (m : Nat) (hm : szA a < m) (ha : rightV a = 0) (hb : rightV b = 0) {n : Int} (ex : cmpF m a b = n) (h1 : Rd w a v1) (h2 : Rd w b v2) : Calls Try.prog 52 #[v1, v2] w fun e w' => e = .returned (.int .i64 n) ∧ Ext w w' := by
  obtain ⟨F, c0, c1, c2, c3, rfl, hA⟩ := h1
  obtain ⟨G, d0, d1, d2, d3, rfl, hB⟩ := h2
  have h := ocomparem_any m F G a b _ _ _ _ _ _ _ _ w hA hB hm
  rw [ocmpM, if_neg (by rw [ha, hb]; simp), ex] at h
  exact h
end Go.Proofs.Ytgkemmdghmklfaa
