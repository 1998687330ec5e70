/-
  THE WALK of law06.OrderEqual: it returns true, and turns nothing that was there. (Printed by gen_ordeq.py.)
-/
import Derived.Test.YtmpjnjhiklaofaaOrdLives
import Derived.Test.YtmpjnjhiklaofaaOrdM
namespace Go.Proofs.Ytmpjnjhiklaofaa
set_option linter.unusedSimpArgs false
set_option linter.unusedVariables false
open Go.RowKit

set_option maxRecDepth 100000 in
set_option maxHeartbeats 8000000 in
theorem ordeq_any (Fx Fy : Nat → Prop) (x y : Arr) (c0 c1 c2 c3 d0 d1 d2 d3 : Value) (w : World) (hx : ArrAt Fx w x c0 c1 c2 c3) (hy : ArrAt Fy w y d0 d1 d2 d3) :
    Calls Try.prog 7 #[.agg #[c0, c1, c2, c3], .agg #[d0, d1, d2, d3]] w fun e w' => e = .returned (.bool true) ∧ Ext w w' := by
  have hx' := hx
  obtain ⟨kx, q1, sx, m1, q2, nx, m2, q3, ix, m3, rfl, rfl, rfl, rfl⟩ := hx'.form
  have hy' := hy
  obtain ⟨ky, r1, sy, n1, r2, ny, n2, r3, iy, n3, rfl, rfl, rfl, rfl⟩ := hy'.form
  have Hx := Lib.hid hx
  have Hy := Lib.hid hy
  clear hx hx' hy hy'
  go_enter Try.func7, Try.ntmps7
  go_upto_region 1 with (fail)
  have hBx := box_new w (.int .i64 kx) (.slice q1 sx m1) (.slice q2 nx m2) (.slice q3 ix m3)
  replace hBx := hBx.ext ((Ext.refl _).alloc (.cells #[.int .i64 ky, .slice r1 sy n1, .slice r2 ny n2, .slice r3 iy n3] 26))
  have hBy := box_new (w.alloc (.cells #[.int .i64 kx, .slice q1 sx m1, .slice q2 nx m2, .slice q3 ix m3] 26)) (.int .i64 ky) (.slice r1 sy n1) (.slice r2 ny n2) (.slice r3 iy n3)
  rw [World.size_alloc] at hBy
  have hE0 : Ext w ((w.alloc (.cells #[.int .i64 kx, .slice q1 sx m1, .slice q2 nx m2, .slice q3 ix m3] 26)).alloc (.cells #[.int .i64 ky, .slice r1 sy n1, .slice r2 ny n2, .slice r3 iy n3] 26)) := ((Ext.refl _).alloc _).alloc _
  have HAx := Lib.hid (Hx.out.ext hE0)
  have HAy := Lib.hid (Hy.out.ext hE0)
  generalize ((w.alloc (.cells #[.int .i64 kx, .slice q1 sx m1, .slice q2 nx m2, .slice q3 ix m3] 26)).alloc (.cells #[.int .i64 ky, .slice r1 sy n1, .slice r2 ny n2, .slice r3 iy n3] 26)) = w1 at hBx HAx hBy HAy hE0 ⊢
  have HBx := Lib.hid hBx
  have HBy := Lib.hid hBy
  have HE := Lib.hid hE0
  clear hE0 hBx Hx hBy Hy
  obtain ⟨sx0, sx1, sx2, sx3⟩ := HBx.out.cell
  go_wp2_with fail
  refine (small_any _ _ _ _ _ _ w1 HAx.out).mono ?_
  rintro e ws1 ⟨b1, rfl, hEn⟩
  replace HBx := Lib.hid (HBx.out.ext hEn)
  replace HAx := Lib.hid (HAx.out.ext hEn)
  replace HBy := Lib.hid (HBy.out.ext hEn)
  replace HAy := Lib.hid (HAy.out.ext hEn)
  replace HE := Lib.hid (HE.out.trans (hEn))
  clear sx0 sx1 sx2 sx3
  clear hEn
  cases b1 with
  | false =>
    go_wp2_with fail
    refine (ordlives_any _).mono ?_
    rintro e wl ⟨rfl, hEl⟩
    go_wp2_with fail
    go_ret
    exact ⟨rfl, HE.out.trans hEl⟩
  | true =>
  obtain ⟨sy0, sy1, sy2, sy3⟩ := HBy.out.cell
  go_wp2_with fail
  refine (small_any _ _ _ _ _ _ ws1 HAy.out).mono ?_
  rintro e ws2 ⟨b1, rfl, hEn⟩
  replace HBx := Lib.hid (HBx.out.ext hEn)
  replace HAx := Lib.hid (HAx.out.ext hEn)
  replace HBy := Lib.hid (HBy.out.ext hEn)
  replace HAy := Lib.hid (HAy.out.ext hEn)
  replace HE := Lib.hid (HE.out.trans (hEn))
  clear sy0 sy1 sy2 sy3
  clear hEn
  cases b1 with
  | false =>
    go_wp2_with fail
    refine (ordlives_any _).mono ?_
    rintro e wl ⟨rfl, hEl⟩
    go_wp2_with fail
    go_ret
    exact ⟨rfl, HE.out.trans hEl⟩
  | true =>
  obtain ⟨sx0, sx1, sx2, sx3⟩ := HBx.out.cell
  go_wp2_with fail
  refine (rright6_any _ _ _ _ _ _ ws2 HAx.out).mono ?_
  rintro e ws3 ⟨rfl, hEn⟩
  replace HBx := Lib.hid (HBx.out.ext hEn)
  replace HAx := Lib.hid (HAx.out.ext hEn)
  replace HBy := Lib.hid (HBy.out.ext hEn)
  replace HAy := Lib.hid (HAy.out.ext hEn)
  replace HE := Lib.hid (HE.out.trans (hEn))
  clear sx0 sx1 sx2 sx3
  clear hEn
  generalize hrx : rightV x = rx
  by_cases hzx : rx = 0
  rotate_left
  · have hzz : (rx != 0) = true := by simpa using hzx
    clear hzx
    go_wp2_with fail
    refine (ordlives_any _).mono ?_
    rintro e wl ⟨rfl, hEl⟩
    go_wp2_with fail
    go_ret
    exact ⟨rfl, HE.out.trans hEl⟩
  subst hzx
  have HRx := Lib.hid hrx
  clear hrx
  obtain ⟨sy0, sy1, sy2, sy3⟩ := HBy.out.cell
  go_wp2_with fail
  refine (rright6_any _ _ _ _ _ _ ws3 HAy.out).mono ?_
  rintro e ws4 ⟨rfl, hEn⟩
  replace HBx := Lib.hid (HBx.out.ext hEn)
  replace HAx := Lib.hid (HAx.out.ext hEn)
  replace HBy := Lib.hid (HBy.out.ext hEn)
  replace HAy := Lib.hid (HAy.out.ext hEn)
  replace HE := Lib.hid (HE.out.trans (hEn))
  clear sy0 sy1 sy2 sy3
  clear hEn
  generalize hry : rightV y = ry
  by_cases hzy : ry = 0
  rotate_left
  · have hzz : (ry != 0) = true := by simpa using hzy
    clear hzy
    go_wp2_with fail
    refine (ordlives_any _).mono ?_
    rintro e wl ⟨rfl, hEl⟩
    go_wp2_with fail
    go_ret
    exact ⟨rfl, HE.out.trans hEl⟩
  subst hzy
  have HRy := Lib.hid hry
  clear hry
  obtain ⟨m, hm⟩ : ∃ m, m = szA x + szA y + 1 := ⟨_, rfl⟩
  have hmx : szA x < m := by omega
  have hmy : szA y < m := by omega
  clear hm
  have hneg := cmpF_neg m x y
  have hbd := cmpF_bd m x y
  have hself := cmpF_self m x
  have hsame : sameV x y = decide (cmpF m x y = 0) := by
    by_cases he : x = y
    · subst he; rw [cmpF_self, (sameV_eq x x).2 rfl]; rfl
    · have h1 : ¬ cmpF m x y = 0 := fun h => he (cmpF_zero m x y hmx HRx.out HRy.out h)
      have h2 : sameV x y = false := by rw [Bool.eq_false_iff]; exact fun h => he ((sameV_eq x y).1 h)
      rw [h2, decide_eq_false h1]
  have hcs : ∃ (c e : Int) (lb sb : Bool), cmpF m x y = c ∧ cmpF m y x = e ∧ decide (cmpF m x y < 0) = lb ∧ sameV x y = sb ∧ ((c = -1 ∧ e = 1 ∧ lb = true ∧ sb = false) ∨ (c = 0 ∧ e = 0 ∧ lb = false ∧ sb = true) ∨ (c = 1 ∧ e = -1 ∧ lb = false ∧ sb = false)) := by
    refine ⟨_, _, _, _, rfl, rfl, rfl, rfl, ?_⟩
    rw [hsame, hneg]
    generalize cmpF m x y = c at *
    rcases (show c = -1 ∨ c = 0 ∨ c = 1 by omega) with h | h | h <;> subst h <;> simp
  obtain ⟨c, e, lb, sb, h1, h2, h3, h4, hcase⟩ := hcs
  have H1 := Lib.hid h1
  have H2 := Lib.hid h2
  have H3 := Lib.hid h3
  have HSF := Lib.hid hself
  have HS : Hid (∀ w' (h : Ext ws4 w'), Calls Try.prog 21 #[.agg #[(.int .i64 kx), (.slice q1 sx m1), (.slice q2 nx m2), (.slice q3 ix m3)], .agg #[(.int .i64 ky), (.slice r1 sy n1), (.slice r2 ny n2), (.slice r3 iy n3)]] w' fun e w'' => e = .returned (.bool sb) ∧ Ext w' w'') := fun w' h => by
    have h9 := same_any _ _ _ x y _ _ _ _ _ _ _ _ w' (Nat.lt_succ_self _) (HAx.out.ext h) (HAy.out.ext h)
    rw [h4] at h9
    exact h9
  clear h1 h2 h3 h4 hneg hbd hself hsame
  rcases hcase with ⟨rfl, rfl, rfl, rfl⟩ | ⟨rfl, rfl, rfl, rfl⟩ | ⟨rfl, rfl, rfl, rfl⟩
  all_goals
    have HEQ := Lib.hid (Ext.refl ws4)
    obtain ⟨sx0, sx1, sx2, sx3⟩ := HBx.out.cell
    obtain ⟨sy0, sy1, sy2, sy3⟩ := HBy.out.cell
    go_wp2_with fail
    refine (ocmpm_rd m hmx HRx.out HRy.out H1.out (Rd.mk HAx.out) (Rd.mk HAy.out)).mono ?_
    rintro e wf5 ⟨rfl, hEn⟩
    replace HBx := Lib.hid (HBx.out.ext hEn)
    replace HAx := Lib.hid (HAx.out.ext hEn)
    replace HBy := Lib.hid (HBy.out.ext hEn)
    replace HAy := Lib.hid (HAy.out.ext hEn)
    replace HEQ := Lib.hid (HEQ.out.trans (hEn))
    replace HE := Lib.hid (HE.out.trans (hEn))
    clear hEn
    clear sx0 sx1 sx2 sx3 sy0 sy1 sy2 sy3
    obtain ⟨sx0, sx1, sx2, sx3⟩ := HBx.out.cell
    obtain ⟨sy0, sy1, sy2, sy3⟩ := HBy.out.cell
    go_wp2_with fail
    refine (HS.out _ HEQ.out).mono ?_
    rintro e wf6 ⟨rfl, hEn⟩
    replace HBx := Lib.hid (HBx.out.ext hEn)
    replace HAx := Lib.hid (HAx.out.ext hEn)
    replace HBy := Lib.hid (HBy.out.ext hEn)
    replace HAy := Lib.hid (HAy.out.ext hEn)
    replace HEQ := Lib.hid (HEQ.out.trans (hEn))
    replace HE := Lib.hid (HE.out.trans (hEn))
    clear hEn
    clear sx0 sx1 sx2 sx3 sy0 sy1 sy2 sy3
    obtain ⟨sx0, sx1, sx2, sx3⟩ := HBx.out.cell
    obtain ⟨sy0, sy1, sy2, sy3⟩ := HBy.out.cell
    go_wp2_with fail
    refine (ocmpm_rd m hmy HRy.out HRx.out H2.out (Rd.mk HAy.out) (Rd.mk HAx.out)).mono ?_
    rintro e wf7 ⟨rfl, hEn⟩
    replace HBx := Lib.hid (HBx.out.ext hEn)
    replace HAx := Lib.hid (HAx.out.ext hEn)
    replace HBy := Lib.hid (HBy.out.ext hEn)
    replace HAy := Lib.hid (HAy.out.ext hEn)
    replace HEQ := Lib.hid (HEQ.out.trans (hEn))
    replace HE := Lib.hid (HE.out.trans (hEn))
    clear hEn
    clear sx0 sx1 sx2 sx3 sy0 sy1 sy2 sy3
    obtain ⟨sx0, sx1, sx2, sx3⟩ := HBx.out.cell
    obtain ⟨sy0, sy1, sy2, sy3⟩ := HBy.out.cell
    go_wp2_with fail
    refine (olessm_rd m hmx HRx.out HRy.out H3.out (Rd.mk HAx.out) (Rd.mk HAy.out)).mono ?_
    rintro e wf8 ⟨rfl, hEn⟩
    replace HBx := Lib.hid (HBx.out.ext hEn)
    replace HAx := Lib.hid (HAx.out.ext hEn)
    replace HBy := Lib.hid (HBy.out.ext hEn)
    replace HAy := Lib.hid (HAy.out.ext hEn)
    replace HEQ := Lib.hid (HEQ.out.trans (hEn))
    replace HE := Lib.hid (HE.out.trans (hEn))
    clear hEn
    clear sx0 sx1 sx2 sx3 sy0 sy1 sy2 sy3
    obtain ⟨sx0, sx1, sx2, sx3⟩ := HBx.out.cell
    go_wp2_with fail
    refine (ocmpm_rd m hmx HRx.out HRx.out HSF.out (Rd.mk HAx.out) (Rd.mk HAx.out)).mono ?_
    rintro e wf9 ⟨rfl, hEn⟩
    replace HBx := Lib.hid (HBx.out.ext hEn)
    replace HAx := Lib.hid (HAx.out.ext hEn)
    replace HBy := Lib.hid (HBy.out.ext hEn)
    replace HAy := Lib.hid (HAy.out.ext hEn)
    replace HEQ := Lib.hid (HEQ.out.trans (hEn))
    replace HE := Lib.hid (HE.out.trans (hEn))
    clear hEn
    clear sx0 sx1 sx2 sx3
    go_wp2_with fail
    refine (ordlives_any _).mono ?_
    rintro e wl ⟨rfl, hEl⟩
    go_wp2_with fail
    go_ret
    exact ⟨rfl, HE.out.trans hEl⟩
end Go.Proofs.Ytmpjnjhiklaofaa
