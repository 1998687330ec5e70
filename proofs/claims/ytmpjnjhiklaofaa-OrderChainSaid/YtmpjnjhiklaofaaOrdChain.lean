/-
  THE WALK of law06.OrderChain: it returns true, and turns nothing that was there. (Printed by gen_ordeq.py.)
-/
import Derived.Test.YtmpjnjhiklaofaaOrdLives
import Derived.Test.YtmpjnjhiklaofaaOrdM
namespace Go.Proofs.Ytmpjnjhiklaofaa
set_option linter.unusedSimpArgs false
set_option linter.unusedVariables false
open Go.RowKit

set_option maxRecDepth 100000 in
set_option maxHeartbeats 8000000 in
theorem ordchain_any (Fx Fy Fz : Nat → Prop) (x y z : Arr) (c0 c1 c2 c3 d0 d1 d2 d3 b0 b1 b2 b3 : Value) (w : World) (hx : ArrAt Fx w x c0 c1 c2 c3) (hy : ArrAt Fy w y d0 d1 d2 d3) (hz : ArrAt Fz w z b0 b1 b2 b3) :
    Calls Try.prog 8 #[.agg #[c0, c1, c2, c3], .agg #[d0, d1, d2, d3], .agg #[b0, b1, b2, b3]] w fun e w' => e = .returned (.bool true) ∧ Ext w w' := by
  have hx' := hx
  obtain ⟨kx, q1, sx, m1, q2, nx, m2, q3, ix, m3, rfl, rfl, rfl, rfl⟩ := hx'.form
  have hy' := hy
  obtain ⟨ky, r1, sy, n1, r2, ny, n2, r3, iy, n3, rfl, rfl, rfl, rfl⟩ := hy'.form
  have hz' := hz
  obtain ⟨kz, p1, sz, k1, p2, nz, k2, p3, iz, k3, rfl, rfl, rfl, rfl⟩ := hz'.form
  have Hx := Lib.hid hx
  have Hy := Lib.hid hy
  have Hz := Lib.hid hz
  clear hx hx' hy hy' hz hz'
  go_enter Try.func8, Try.ntmps8
  go_upto_region 1 with (fail)
  have hBx := box_new w (.int .i64 kx) (.slice q1 sx m1) (.slice q2 nx m2) (.slice q3 ix m3)
  replace hBx := hBx.ext ((Ext.refl _).alloc (.cells #[.int .i64 ky, .slice r1 sy n1, .slice r2 ny n2, .slice r3 iy n3] 26))
  replace hBx := hBx.ext ((Ext.refl _).alloc (.cells #[.int .i64 kz, .slice p1 sz k1, .slice p2 nz k2, .slice p3 iz k3] 26))
  have hBy := box_new (w.alloc (.cells #[.int .i64 kx, .slice q1 sx m1, .slice q2 nx m2, .slice q3 ix m3] 26)) (.int .i64 ky) (.slice r1 sy n1) (.slice r2 ny n2) (.slice r3 iy n3)
  rw [World.size_alloc] at hBy
  replace hBy := hBy.ext ((Ext.refl _).alloc (.cells #[.int .i64 kz, .slice p1 sz k1, .slice p2 nz k2, .slice p3 iz k3] 26))
  have hBz := box_new ((w.alloc (.cells #[.int .i64 kx, .slice q1 sx m1, .slice q2 nx m2, .slice q3 ix m3] 26)).alloc (.cells #[.int .i64 ky, .slice r1 sy n1, .slice r2 ny n2, .slice r3 iy n3] 26)) (.int .i64 kz) (.slice p1 sz k1) (.slice p2 nz k2) (.slice p3 iz k3)
  rw [World.size_alloc, World.size_alloc] at hBz
  have hE0 : Ext w (((w.alloc (.cells #[.int .i64 kx, .slice q1 sx m1, .slice q2 nx m2, .slice q3 ix m3] 26)).alloc (.cells #[.int .i64 ky, .slice r1 sy n1, .slice r2 ny n2, .slice r3 iy n3] 26)).alloc (.cells #[.int .i64 kz, .slice p1 sz k1, .slice p2 nz k2, .slice p3 iz k3] 26)) := (((Ext.refl _).alloc _).alloc _).alloc _
  have HAx := Lib.hid (Hx.out.ext hE0)
  have HAy := Lib.hid (Hy.out.ext hE0)
  have HAz := Lib.hid (Hz.out.ext hE0)
  generalize (((w.alloc (.cells #[.int .i64 kx, .slice q1 sx m1, .slice q2 nx m2, .slice q3 ix m3] 26)).alloc (.cells #[.int .i64 ky, .slice r1 sy n1, .slice r2 ny n2, .slice r3 iy n3] 26)).alloc (.cells #[.int .i64 kz, .slice p1 sz k1, .slice p2 nz k2, .slice p3 iz k3] 26)) = w1 at hBx HAx hBy HAy hBz HAz hE0 ⊢
  have HBx := Lib.hid hBx
  have HBy := Lib.hid hBy
  have HBz := Lib.hid hBz
  have HE := Lib.hid hE0
  clear hE0 hBx Hx hBy Hy hBz Hz
  obtain ⟨sx0, sx1, sx2, sx3⟩ := HBx.out.cell
  go_wp2_with fail
  refine (small_any _ _ _ _ _ _ w1 HAx.out).mono ?_
  rintro e ws1 ⟨b1, rfl, hEn⟩
  replace HBx := Lib.hid (HBx.out.ext hEn)
  replace HAx := Lib.hid (HAx.out.ext hEn)
  replace HBy := Lib.hid (HBy.out.ext hEn)
  replace HAy := Lib.hid (HAy.out.ext hEn)
  replace HBz := Lib.hid (HBz.out.ext hEn)
  replace HAz := Lib.hid (HAz.out.ext hEn)
  replace HE := Lib.hid (HE.out.trans (hEn))
  clear sx0 sx1 sx2 sx3
  clear hEn
  cases b1 with
  | false =>
    go_wp2_with fail
    refine (ordlives_any _).mono ?_
    rintro e wl ⟨rfl, hEl⟩
    go_wp2_with fail
    go_ret
    exact ⟨rfl, HE.out.trans hEl⟩
  | true =>
  obtain ⟨sy0, sy1, sy2, sy3⟩ := HBy.out.cell
  go_wp2_with fail
  refine (small_any _ _ _ _ _ _ ws1 HAy.out).mono ?_
  rintro e ws2 ⟨b1, rfl, hEn⟩
  replace HBx := Lib.hid (HBx.out.ext hEn)
  replace HAx := Lib.hid (HAx.out.ext hEn)
  replace HBy := Lib.hid (HBy.out.ext hEn)
  replace HAy := Lib.hid (HAy.out.ext hEn)
  replace HBz := Lib.hid (HBz.out.ext hEn)
  replace HAz := Lib.hid (HAz.out.ext hEn)
  replace HE := Lib.hid (HE.out.trans (hEn))
  clear sy0 sy1 sy2 sy3
  clear hEn
  cases b1 with
  | false =>
    go_wp2_with fail
    refine (ordlives_any _).mono ?_
    rintro e wl ⟨rfl, hEl⟩
    go_wp2_with fail
    go_ret
    exact ⟨rfl, HE.out.trans hEl⟩
  | true =>
  obtain ⟨sz0, sz1, sz2, sz3⟩ := HBz.out.cell
  go_wp2_with fail
  refine (small_any _ _ _ _ _ _ ws2 HAz.out).mono ?_
  rintro e ws3 ⟨b1, rfl, hEn⟩
  replace HBx := Lib.hid (HBx.out.ext hEn)
  replace HAx := Lib.hid (HAx.out.ext hEn)
  replace HBy := Lib.hid (HBy.out.ext hEn)
  replace HAy := Lib.hid (HAy.out.ext hEn)
  replace HBz := Lib.hid (HBz.out.ext hEn)
  replace HAz := Lib.hid (HAz.out.ext hEn)
  replace HE := Lib.hid (HE.out.trans (hEn))
  clear sz0 sz1 sz2 sz3
  clear hEn
  cases b1 with
  | false =>
    go_wp2_with fail
    refine (ordlives_any _).mono ?_
    rintro e wl ⟨rfl, hEl⟩
    go_wp2_with fail
    go_ret
    exact ⟨rfl, HE.out.trans hEl⟩
  | true =>
  obtain ⟨sx0, sx1, sx2, sx3⟩ := HBx.out.cell
  go_wp2_with fail
  refine (rright6_any _ _ _ _ _ _ ws3 HAx.out).mono ?_
  rintro e ws4 ⟨rfl, hEn⟩
  replace HBx := Lib.hid (HBx.out.ext hEn)
  replace HAx := Lib.hid (HAx.out.ext hEn)
  replace HBy := Lib.hid (HBy.out.ext hEn)
  replace HAy := Lib.hid (HAy.out.ext hEn)
  replace HBz := Lib.hid (HBz.out.ext hEn)
  replace HAz := Lib.hid (HAz.out.ext hEn)
  replace HE := Lib.hid (HE.out.trans (hEn))
  clear sx0 sx1 sx2 sx3
  clear hEn
  generalize hrx : rightV x = rx
  by_cases hzx : rx = 0
  rotate_left
  · have hzz : (rx != 0) = true := by simpa using hzx
    clear hzx
    go_wp2_with fail
    refine (ordlives_any _).mono ?_
    rintro e wl ⟨rfl, hEl⟩
    go_wp2_with fail
    go_ret
    exact ⟨rfl, HE.out.trans hEl⟩
  subst hzx
  have HRx := Lib.hid hrx
  clear hrx
  obtain ⟨sy0, sy1, sy2, sy3⟩ := HBy.out.cell
  go_wp2_with fail
  refine (rright6_any _ _ _ _ _ _ ws4 HAy.out).mono ?_
  rintro e ws5 ⟨rfl, hEn⟩
  replace HBx := Lib.hid (HBx.out.ext hEn)
  replace HAx := Lib.hid (HAx.out.ext hEn)
  replace HBy := Lib.hid (HBy.out.ext hEn)
  replace HAy := Lib.hid (HAy.out.ext hEn)
  replace HBz := Lib.hid (HBz.out.ext hEn)
  replace HAz := Lib.hid (HAz.out.ext hEn)
  replace HE := Lib.hid (HE.out.trans (hEn))
  clear sy0 sy1 sy2 sy3
  clear hEn
  generalize hry : rightV y = ry
  by_cases hzy : ry = 0
  rotate_left
  · have hzz : (ry != 0) = true := by simpa using hzy
    clear hzy
    go_wp2_with fail
    refine (ordlives_any _).mono ?_
    rintro e wl ⟨rfl, hEl⟩
    go_wp2_with fail
    go_ret
    exact ⟨rfl, HE.out.trans hEl⟩
  subst hzy
  have HRy := Lib.hid hry
  clear hry
  obtain ⟨sz0, sz1, sz2, sz3⟩ := HBz.out.cell
  go_wp2_with fail
  refine (rright6_any _ _ _ _ _ _ ws5 HAz.out).mono ?_
  rintro e ws6 ⟨rfl, hEn⟩
  replace HBx := Lib.hid (HBx.out.ext hEn)
  replace HAx := Lib.hid (HAx.out.ext hEn)
  replace HBy := Lib.hid (HBy.out.ext hEn)
  replace HAy := Lib.hid (HAy.out.ext hEn)
  replace HBz := Lib.hid (HBz.out.ext hEn)
  replace HAz := Lib.hid (HAz.out.ext hEn)
  replace HE := Lib.hid (HE.out.trans (hEn))
  clear sz0 sz1 sz2 sz3
  clear hEn
  generalize hrz : rightV z = rz
  by_cases hzz : rz = 0
  rotate_left
  · have hzz : (rz != 0) = true := by simpa using hzz
    clear hzz
    go_wp2_with fail
    refine (ordlives_any _).mono ?_
    rintro e wl ⟨rfl, hEl⟩
    go_wp2_with fail
    go_ret
    exact ⟨rfl, HE.out.trans hEl⟩
  subst hzz
  have HRz := Lib.hid hrz
  clear hrz
  obtain ⟨m, hm⟩ : ∃ m, m = szA x + szA y + 1 := ⟨_, rfl⟩
  have hmx : szA x < m := by omega
  have hmy : szA y < m := by omega
  clear hm
  have ht := (cmpF_t3 m x y z).1
  generalize h1 : cmpF m x y = c1 at *
  generalize h2 : cmpF m y z = c2 at *
  generalize h3 : cmpF m x z = c3 at *
  have H1 := Lib.hid h1
  have H2 := Lib.hid h2
  have H3 := Lib.hid h3
  clear h1 h2 h3
  have hcs : 0 < c1 ∨ (c1 ≤ 0 ∧ 0 < c2) ∨ (c1 ≤ 0 ∧ c2 ≤ 0 ∧ c3 ≤ 0) := by
    by_cases a1 : 0 < c1
    · exact .inl a1
    · by_cases a2 : 0 < c2
      · exact .inr (.inl ⟨by omega, a2⟩)
      · exact .inr (.inr ⟨by omega, by omega, ht (by omega) (by omega)⟩)
  clear ht
  rcases hcs with a1 | ⟨a1, a2⟩ | ⟨a1, a2, a3⟩
  · have d1 : decide (0 < c1) = true := by simpa using a1
    obtain ⟨sx0, sx1, sx2, sx3⟩ := HBx.out.cell
    obtain ⟨sy0, sy1, sy2, sy3⟩ := HBy.out.cell
    go_wp2_with fail
    refine (ocmpm_rd m hmx HRx.out HRy.out H1.out (Rd.mk HAx.out) (Rd.mk HAy.out)).mono ?_
    rintro e wf7 ⟨rfl, hEn⟩
    replace HBx := Lib.hid (HBx.out.ext hEn)
    replace HAx := Lib.hid (HAx.out.ext hEn)
    replace HBy := Lib.hid (HBy.out.ext hEn)
    replace HAy := Lib.hid (HAy.out.ext hEn)
    replace HBz := Lib.hid (HBz.out.ext hEn)
    replace HAz := Lib.hid (HAz.out.ext hEn)
    replace HE := Lib.hid (HE.out.trans (hEn))
    clear hEn
    clear sx0 sx1 sx2 sx3 sy0 sy1 sy2 sy3
    go_wp2_with fail
    refine (ordlives_any _).mono ?_
    rintro e wl ⟨rfl, hEl⟩
    go_wp2_with fail
    go_ret
    exact ⟨rfl, HE.out.trans hEl⟩
  · have d1 : decide (0 < c1) = false := by simp; omega
    have d2 : decide (0 < c2) = true := by simpa using a2
    obtain ⟨sx0, sx1, sx2, sx3⟩ := HBx.out.cell
    obtain ⟨sy0, sy1, sy2, sy3⟩ := HBy.out.cell
    go_wp2_with fail
    refine (ocmpm_rd m hmx HRx.out HRy.out H1.out (Rd.mk HAx.out) (Rd.mk HAy.out)).mono ?_
    rintro e wf7 ⟨rfl, hEn⟩
    replace HBx := Lib.hid (HBx.out.ext hEn)
    replace HAx := Lib.hid (HAx.out.ext hEn)
    replace HBy := Lib.hid (HBy.out.ext hEn)
    replace HAy := Lib.hid (HAy.out.ext hEn)
    replace HBz := Lib.hid (HBz.out.ext hEn)
    replace HAz := Lib.hid (HAz.out.ext hEn)
    replace HE := Lib.hid (HE.out.trans (hEn))
    clear hEn
    clear sx0 sx1 sx2 sx3 sy0 sy1 sy2 sy3
    obtain ⟨sy0, sy1, sy2, sy3⟩ := HBy.out.cell
    obtain ⟨sz0, sz1, sz2, sz3⟩ := HBz.out.cell
    go_wp2_with fail
    refine (ocmpm_rd m hmy HRy.out HRz.out H2.out (Rd.mk HAy.out) (Rd.mk HAz.out)).mono ?_
    rintro e wf8 ⟨rfl, hEn⟩
    replace HBx := Lib.hid (HBx.out.ext hEn)
    replace HAx := Lib.hid (HAx.out.ext hEn)
    replace HBy := Lib.hid (HBy.out.ext hEn)
    replace HAy := Lib.hid (HAy.out.ext hEn)
    replace HBz := Lib.hid (HBz.out.ext hEn)
    replace HAz := Lib.hid (HAz.out.ext hEn)
    replace HE := Lib.hid (HE.out.trans (hEn))
    clear hEn
    clear sy0 sy1 sy2 sy3 sz0 sz1 sz2 sz3
    go_wp2_with fail
    refine (ordlives_any _).mono ?_
    rintro e wl ⟨rfl, hEl⟩
    go_wp2_with fail
    go_ret
    exact ⟨rfl, HE.out.trans hEl⟩
  · have d1 : decide (0 < c1) = false := by simp; omega
    have d2 : decide (0 < c2) = false := by simp; omega
    have d3 : decide (c3 ≤ 0) = true := by simpa using a3
    obtain ⟨sx0, sx1, sx2, sx3⟩ := HBx.out.cell
    obtain ⟨sy0, sy1, sy2, sy3⟩ := HBy.out.cell
    go_wp2_with fail
    refine (ocmpm_rd m hmx HRx.out HRy.out H1.out (Rd.mk HAx.out) (Rd.mk HAy.out)).mono ?_
    rintro e wf7 ⟨rfl, hEn⟩
    replace HBx := Lib.hid (HBx.out.ext hEn)
    replace HAx := Lib.hid (HAx.out.ext hEn)
    replace HBy := Lib.hid (HBy.out.ext hEn)
    replace HAy := Lib.hid (HAy.out.ext hEn)
    replace HBz := Lib.hid (HBz.out.ext hEn)
    replace HAz := Lib.hid (HAz.out.ext hEn)
    replace HE := Lib.hid (HE.out.trans (hEn))
    clear hEn
    clear sx0 sx1 sx2 sx3 sy0 sy1 sy2 sy3
    obtain ⟨sy0, sy1, sy2, sy3⟩ := HBy.out.cell
    obtain ⟨sz0, sz1, sz2, sz3⟩ := HBz.out.cell
    go_wp2_with fail
    refine (ocmpm_rd m hmy HRy.out HRz.out H2.out (Rd.mk HAy.out) (Rd.mk HAz.out)).mono ?_
    rintro e wf8 ⟨rfl, hEn⟩
    replace HBx := Lib.hid (HBx.out.ext hEn)
    replace HAx := Lib.hid (HAx.out.ext hEn)
    replace HBy := Lib.hid (HBy.out.ext hEn)
    replace HAy := Lib.hid (HAy.out.ext hEn)
    replace HBz := Lib.hid (HBz.out.ext hEn)
    replace HAz := Lib.hid (HAz.out.ext hEn)
    replace HE := Lib.hid (HE.out.trans (hEn))
    clear hEn
    clear sy0 sy1 sy2 sy3 sz0 sz1 sz2 sz3
    obtain ⟨sx0, sx1, sx2, sx3⟩ := HBx.out.cell
    obtain ⟨sz0, sz1, sz2, sz3⟩ := HBz.out.cell
    go_wp2_with fail
    refine (ocmpm_rd m hmx HRx.out HRz.out H3.out (Rd.mk HAx.out) (Rd.mk HAz.out)).mono ?_
    rintro e wf9 ⟨rfl, hEn⟩
    replace HBx := Lib.hid (HBx.out.ext hEn)
    replace HAx := Lib.hid (HAx.out.ext hEn)
    replace HBy := Lib.hid (HBy.out.ext hEn)
    replace HAy := Lib.hid (HAy.out.ext hEn)
    replace HBz := Lib.hid (HBz.out.ext hEn)
    replace HAz := Lib.hid (HAz.out.ext hEn)
    replace HE := Lib.hid (HE.out.trans (hEn))
    clear hEn
    clear sx0 sx1 sx2 sx3 sz0 sz1 sz2 sz3
    go_wp2_with fail
    refine (ordlives_any _).mono ?_
    rintro e wl ⟨rfl, hEl⟩
    go_wp2_with fail
    go_ret
    exact ⟨rfl, HE.out.trans hEl⟩
end Go.Proofs.Ytmpjnjhiklaofaa
