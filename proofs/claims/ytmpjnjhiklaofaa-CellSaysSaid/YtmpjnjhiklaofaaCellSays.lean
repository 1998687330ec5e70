/-
  THE WALK of law04.CellSays: it returns true, and turns nothing that was there. (Printed by gen_cellsays.py.)
-/
import Derived.Test.YtmpjnjhiklaofaaCellAwk
import Derived.Test.YtmpjnjhiklaofaaRCells
import Derived.Test.YtmpjnjhiklaofaaFew
namespace Go.Proofs.Ytmpjnjhiklaofaa
set_option linter.unusedSimpArgs false
set_option linter.unusedVariables false
open Go.RowKit

theorem rframe_rd {w : World} {t : Arr} {v : Value} {k : Int} {l : List Int} (ex : frameV t k = l) (h : Rd w t v) (hk : -9223372036854775808 ≤ k ∧ k ≤ 9223372036854775807) : Calls Try.prog 43 #[v, .int .i64 k] w fun e w' => ∃ x, e = .returned x ∧ RdAll w' l x ∧ Ext w w' := by
  obtain ⟨F, c0, c1, c2, c3, rfl, hA⟩ := h
  rw [← ex]
  exact rframe_any F t _ _ _ _ k w hA hk
theorem rcells_rd {w : World} {t : Arr} {v : Value} {k : Int} {l : List Arr} (ex : cellsV t k = l) (h : Rd w t v) (hk : -9223372036854775808 ≤ k ∧ k ≤ 9223372036854775807) : Calls Try.prog 46 #[v, .int .i64 k] w fun e w' => ∃ x, e = .returned x ∧ RdArs w' l x ∧ Ext w w' := by
  obtain ⟨F, c0, c1, c2, c3, rfl, hA⟩ := h
  rw [← ex]
  refine (rcells_any F t _ _ _ _ k w hA hk).mono ?_
  rintro e w' ⟨x, rfl, h, hE⟩
  exact ⟨x, rfl, h.ars, hE⟩
theorem rrank_is {w : World} {k r n : Int} (ex : rankV k r = n) (hk : -9223372036854775808 ≤ k ∧ k ≤ 9223372036854775807) (hr : -9223372036854775808 ≤ r ∧ r ≤ 9223372036854775807) : Calls Try.prog 40 #[.int .i64 k, .int .i64 r] w fun e w' => e = .returned (.int .i64 n) ∧ w = w' := by
  have h := rrank_any k r w hk hr
  rw [ex] at h
  exact h

set_option maxRecDepth 100000 in
set_option maxHeartbeats 8000000 in
theorem cellsays_any (F : Nat → Prop) (x : Arr) (c0 c1 c2 c3 : Value) (k r : Int) (w : World) (hx : ArrAt F w x c0 c1 c2 c3) (hk : -9223372036854775808 ≤ k ∧ k ≤ 9223372036854775807) (hr : -9223372036854775808 ≤ r ∧ r ≤ 9223372036854775807) :
    Calls Try.prog 11 #[.agg #[c0, c1, c2, c3], .int .i64 k, .int .i64 r] w fun e w' => e = .returned (.bool true) ∧ Ext w w' := by
  have hx' := hx
  obtain ⟨kx, q1, sx, m1, q2, nx, m2, q3, ix, m3, rfl, rfl, rfl, rfl⟩ := hx'.form
  have HX := Lib.hid hx
  clear hx hx'
  generalize hrk : rankV k r = rk
  generalize hfv : frameV x k = fv
  generalize hcv : cellsV x k = cv
  have HRK := Lib.hid hrk
  have HFV := Lib.hid hfv
  have HCV := Lib.hid hcv
  have HKB := Lib.hid hk
  have HRB := Lib.hid hr
  clear hrk hfv hcv hk hr
  go_enter Try.func11, Try.ntmps11
  go_upto_region 1 with (fail)
  have hE0 : Ext w (w.alloc (.cells #[.int .i64 kx, .slice q1 sx m1, .slice q2 nx m2, .slice q3 ix m3] 26)) := (Ext.refl _).alloc _
  have hBX := box_new w (.int .i64 kx) (.slice q1 sx m1) (.slice q2 nx m2) (.slice q3 ix m3)
  have HAx := Lib.hid (HX.out.ext hE0)
  generalize w.alloc (.cells #[.int .i64 kx, .slice q1 sx m1, .slice q2 nx m2, .slice q3 ix m3] 26) = w1 at hE0 hBX HAx ⊢
  have HBx := Lib.hid hBX
  have HE := Lib.hid hE0
  clear hBX hE0 HX
  go_wp2_with fail
  refine (crank_any k r w1 HKB.out HRB.out).mono ?_
  rintro e w1' ⟨rfl, rfl⟩
  rw [HRK.out]
  go_wp2_with fail
  refine (rrank_is HRK.out HKB.out HRB.out).mono ?_
  rintro e w1' ⟨rfl, rfl⟩
  have hrr : (rk != rk) = false := by simp
  obtain ⟨s0, s1, s2, s3⟩ := HBx.out.cell
  go_wp2_with fail
  refine (few_any _ _ _ _ _ _ 500 w1 HAx.out).mono ?_
  rintro e w2 ⟨rfl, hE1⟩
  replace HE := Lib.hid (HE.out.trans hE1)
  replace HBx := Lib.hid (HBx.out.ext hE1)
  replace HAx := Lib.hid (HAx.out.ext hE1)
  clear s0 s1 s2 s3 hE1
  cases hf1 : fewV x 500 with
  | false =>
    clear hf1
    go_wp2_with fail
    refine (cellawake_any _).mono ?_
    rintro e wl ⟨rfl, hEl⟩
    go_wp2_with fail
    go_ret
    exact ⟨rfl, HE.out.trans hEl⟩
  | true =>
  clear hf1
  go_wp2_with fail
  refine wp_region_x1 [MProp.is (.agg #[(.int .i64 kx), (.slice q1 sx m1), (.slice q2 nx m2), (.slice q3 ix m3)]), MProp.is (.int .i64 k), MProp.rall fv, MProp.is (.agg #[(.int .i64 kx), (.slice q1 sx m1), (.slice q2 nx m2), (.slice q3 ix m3)]), MProp.is (.int .i64 k), MProp.rall fv, MProp.is (.bool true), MProp.is (.bool true), MProp.is (.agg #[(.int .i64 kx), (.slice q1 sx m1), (.slice q2 nx m2), (.slice q3 ix m3)]), MProp.is (.int .i64 k), MProp.rars cv, MProp.is (.agg #[(.int .i64 kx), (.slice q1 sx m1), (.slice q2 nx m2), (.slice q3 ix m3)]), MProp.is (.int .i64 k), MProp.rars cv, MProp.is (.bool true), MProp.is (.bool true), MProp.is (.bool true), MProp.is (.bool true), MProp.is (.bool true)] [0, 1, 2, 3, 4, 5, 6, 7, 8, 9, 10, 11, 12, 13, 14, 15, 16, 17, 18] [] [18, 19, 20, 21, 22, 23, 24, 25, 26, 27, 28, 29, 30, 31, 32, 33, 34, 35, 36] 19 (by kernel_rfl) (by kernel_rfl) (by kernel_rfl) rfl ?_ ?_ ?_
  · refine mem_cons_m ?_ (mem_cons_m ?_ (mem_cons_m ?_ (mem_cons_m ?_ (mem_cons_m ?_ (mem_cons_m ?_ (mem_cons_m ?_ (mem_cons_m ?_ (mem_cons_m ?_ (mem_cons_m ?_ (mem_cons_m ?_ (mem_cons_m ?_ (mem_cons_m ?_ (mem_cons_m ?_ (mem_cons_m ?_ (mem_cons_m ?_ (mem_cons_m ?_ (mem_cons_m ?_ (mem_cons_m ?_ (mem_nil_m)))))))))))))))))))
    · refine ⟨_, 18, rfl, by kernel_rfl, ?_⟩
      intro u w9 X hE hX hd K hK
      clear hd
      simp only [overlay, List.setIfInBounds_toArray, List.set] at hK ⊢
      have e9 : Ext w2 w9 := (Ext.refl w2).drew.trans hE
      obtain ⟨s0, s1, s2, s3⟩ := (HBx.out.ext e9).cell
      go_wp2_with fail
      exact hK _ _ X (Ext.refl _) kept_m hX rfl
    · refine ⟨_, 19, rfl, by kernel_rfl, ?_⟩
      intro u w9 X hE hX hd K hK
      clear hd
      simp only [overlay, List.setIfInBounds_toArray, List.set] at hK ⊢
      go_wp2_with fail
      exact hK _ _ X (Ext.refl _) kept_m hX rfl
    · refine ⟨_, 20, rfl, by kernel_rfl, ?_⟩
      intro u w9 X hE hX hd K hK
      have d0 : u 18 = .agg #[(.int .i64 kx), (.slice q1 sx m1), (.slice q2 nx m2), (.slice q3 ix m3)] := hd 0 (by kernel_rfl)
      have d1 : u 19 = .int .i64 k := hd 1 (by kernel_rfl)
      clear hd
      simp only [overlay, List.setIfInBounds_toArray, List.set, d0, d1] at hK ⊢
      have e9 : Ext w2 w9 := (Ext.refl w2).drew.trans hE
      go_wp2_with fail
      refine (frame_rd HFV.out (Rd.mk HAx.out |>.ext e9) HKB.out).mono ?_
      rintro e w8 ⟨x8, rfl, hx8, hE8⟩
      go_wp2_with fail
      exact hK _ _ X hE8 kept_m (hX.ext hE8) hx8
    · refine ⟨_, 21, rfl, by kernel_rfl, ?_⟩
      intro u w9 X hE hX hd K hK
      clear hd
      simp only [overlay, List.setIfInBounds_toArray, List.set] at hK ⊢
      have e9 : Ext w2 w9 := (Ext.refl w2).drew.trans hE
      obtain ⟨s0, s1, s2, s3⟩ := (HBx.out.ext e9).cell
      go_wp2_with fail
      exact hK _ _ X (Ext.refl _) kept_m hX rfl
    · refine ⟨_, 22, rfl, by kernel_rfl, ?_⟩
      intro u w9 X hE hX hd K hK
      clear hd
      simp only [overlay, List.setIfInBounds_toArray, List.set] at hK ⊢
      go_wp2_with fail
      exact hK _ _ X (Ext.refl _) kept_m hX rfl
    · refine ⟨_, 23, rfl, by kernel_rfl, ?_⟩
      intro u w9 X hE hX hd K hK
      have d3 : u 21 = .agg #[(.int .i64 kx), (.slice q1 sx m1), (.slice q2 nx m2), (.slice q3 ix m3)] := hd 3 (by kernel_rfl)
      have d4 : u 22 = .int .i64 k := hd 4 (by kernel_rfl)
      clear hd
      simp only [overlay, List.setIfInBounds_toArray, List.set, d3, d4] at hK ⊢
      have e9 : Ext w2 w9 := (Ext.refl w2).drew.trans hE
      go_wp2_with fail
      refine (rframe_rd HFV.out (Rd.mk HAx.out |>.ext e9) HKB.out).mono ?_
      rintro e w8 ⟨x8, rfl, hx8, hE8⟩
      go_wp2_with fail
      exact hK _ _ X hE8 kept_m (hX.ext hE8) hx8
    · refine ⟨_, 24, rfl, by kernel_rfl, ?_⟩
      intro u w9 X hE hX hd K hK
      have d2 : RdAll w9 fv (u 20) := hd 2 (by kernel_rfl)
      have d5 : RdAll w9 fv (u 23) := hd 5 (by kernel_rfl)
      clear hd
      simp only [overlay, List.setIfInBounds_toArray, List.set] at hK ⊢
      have e9 : Ext w2 w9 := (Ext.refl w2).drew.trans hE
      go_wp2_with fail
      refine (ints_true d2 d5).mono ?_
      rintro e w8 ⟨rfl, hE8⟩
      go_wp2_with fail
      exact hK _ _ X hE8 kept_m (hX.ext hE8) rfl
    · refine ⟨_, 25, rfl, by kernel_rfl, ?_⟩
      intro u w9 X hE hX hd K hK
      have d6 : u 24 = .bool true := hd 6 (by kernel_rfl)
      clear hd
      simp only [overlay, List.setIfInBounds_toArray, List.set, d6] at hK ⊢
      go_wp2_with fail
      exact hK _ _ X (Ext.refl _) kept_m hX rfl
    · refine ⟨_, 26, rfl, by kernel_rfl, ?_⟩
      intro u w9 X hE hX hd K hK
      have d7 : u 25 = .bool true := hd 7 (by kernel_rfl)
      clear hd
      simp only [overlay, List.setIfInBounds_toArray, List.set, d7] at hK ⊢
      have e9 : Ext w2 w9 := (Ext.refl w2).drew.trans hE
      obtain ⟨s0, s1, s2, s3⟩ := (HBx.out.ext e9).cell
      go_wp2_with fail
      exact hK _ _ X (Ext.refl _) kept_m hX rfl
    · refine ⟨_, 27, rfl, by kernel_rfl, ?_⟩
      intro u w9 X hE hX hd K hK
      have d7 : u 25 = .bool true := hd 7 (by kernel_rfl)
      clear hd
      simp only [overlay, List.setIfInBounds_toArray, List.set, d7] at hK ⊢
      go_wp2_with fail
      exact hK _ _ X (Ext.refl _) kept_m hX rfl
    · refine ⟨_, 28, rfl, by kernel_rfl, ?_⟩
      intro u w9 X hE hX hd K hK
      have d8 : u 26 = .agg #[(.int .i64 kx), (.slice q1 sx m1), (.slice q2 nx m2), (.slice q3 ix m3)] := hd 8 (by kernel_rfl)
      have d9 : u 27 = .int .i64 k := hd 9 (by kernel_rfl)
      have d7 : u 25 = .bool true := hd 7 (by kernel_rfl)
      clear hd
      simp only [overlay, List.setIfInBounds_toArray, List.set, d8, d9, d7] at hK ⊢
      have e9 : Ext w2 w9 := (Ext.refl w2).drew.trans hE
      go_wp2_with fail
      refine (cells_rd HCV.out (Rd.mk HAx.out |>.ext e9) HKB.out).mono ?_
      rintro e w8 ⟨x8, rfl, hx8, hE8⟩
      go_wp2_with fail
      exact hK _ _ X hE8 kept_m (hX.ext hE8) hx8
    · refine ⟨_, 29, rfl, by kernel_rfl, ?_⟩
      intro u w9 X hE hX hd K hK
      have d7 : u 25 = .bool true := hd 7 (by kernel_rfl)
      clear hd
      simp only [overlay, List.setIfInBounds_toArray, List.set, d7] at hK ⊢
      have e9 : Ext w2 w9 := (Ext.refl w2).drew.trans hE
      obtain ⟨s0, s1, s2, s3⟩ := (HBx.out.ext e9).cell
      go_wp2_with fail
      exact hK _ _ X (Ext.refl _) kept_m hX rfl
    · refine ⟨_, 30, rfl, by kernel_rfl, ?_⟩
      intro u w9 X hE hX hd K hK
      have d7 : u 25 = .bool true := hd 7 (by kernel_rfl)
      clear hd
      simp only [overlay, List.setIfInBounds_toArray, List.set, d7] at hK ⊢
      go_wp2_with fail
      exact hK _ _ X (Ext.refl _) kept_m hX rfl
    · refine ⟨_, 31, rfl, by kernel_rfl, ?_⟩
      intro u w9 X hE hX hd K hK
      have d11 : u 29 = .agg #[(.int .i64 kx), (.slice q1 sx m1), (.slice q2 nx m2), (.slice q3 ix m3)] := hd 11 (by kernel_rfl)
      have d12 : u 30 = .int .i64 k := hd 12 (by kernel_rfl)
      have d7 : u 25 = .bool true := hd 7 (by kernel_rfl)
      clear hd
      simp only [overlay, List.setIfInBounds_toArray, List.set, d11, d12, d7] at hK ⊢
      have e9 : Ext w2 w9 := (Ext.refl w2).drew.trans hE
      go_wp2_with fail
      refine (rcells_rd HCV.out (Rd.mk HAx.out |>.ext e9) HKB.out).mono ?_
      rintro e w8 ⟨x8, rfl, hx8, hE8⟩
      go_wp2_with fail
      exact hK _ _ X hE8 kept_m (hX.ext hE8) hx8
    · refine ⟨_, 32, rfl, by kernel_rfl, ?_⟩
      intro u w9 X hE hX hd K hK
      have d10 : RdArs w9 cv (u 28) := hd 10 (by kernel_rfl)
      have d13 : RdArs w9 cv (u 31) := hd 13 (by kernel_rfl)
      have d7 : u 25 = .bool true := hd 7 (by kernel_rfl)
      clear hd
      simp only [overlay, List.setIfInBounds_toArray, List.set, d7] at hK ⊢
      have e9 : Ext w2 w9 := (Ext.refl w2).drew.trans hE
      go_wp2_with fail
      refine (arrays_true d10 d13).mono ?_
      rintro e w8 ⟨rfl, hE8⟩
      go_wp2_with fail
      exact hK _ _ X hE8 kept_m (hX.ext hE8) rfl
    · refine ⟨_, 33, rfl, by kernel_rfl, ?_⟩
      intro u w9 X hE hX hd K hK
      have d7 : u 25 = .bool true := hd 7 (by kernel_rfl)
      have d14 : u 32 = .bool true := hd 14 (by kernel_rfl)
      clear hd
      simp only [overlay, List.setIfInBounds_toArray, List.set, d7, d14] at hK ⊢
      go_wp2_with fail
      exact hK _ _ X (Ext.refl _) kept_m hX rfl
    · refine ⟨_, 34, rfl, by kernel_rfl, ?_⟩
      intro u w9 X hE hX hd K hK
      have d15 : u 33 = .bool true := hd 15 (by kernel_rfl)
      clear hd
      simp only [overlay, List.setIfInBounds_toArray, List.set, d15] at hK ⊢
      go_wp2_with fail
      exact hK _ _ X (Ext.refl _) kept_m hX rfl
    · refine ⟨_, 35, rfl, by kernel_rfl, ?_⟩
      intro u w9 X hE hX hd K hK
      have d16 : u 34 = .bool true := hd 16 (by kernel_rfl)
      clear hd
      simp only [overlay, List.setIfInBounds_toArray, List.set, d16] at hK ⊢
      have e9 : Ext w2 w9 := (Ext.refl w2).drew.trans hE
      go_wp2_with fail
      refine (cellawake_any w9).mono ?_
      rintro e w8 ⟨rfl, hE8⟩
      go_wp2_with fail
      exact hK _ _ X hE8 kept_m (hX.ext hE8) rfl
    · refine ⟨_, 36, rfl, by kernel_rfl, ?_⟩
      intro u w9 X hE hX hd K hK
      have d16 : u 34 = .bool true := hd 16 (by kernel_rfl)
      have d17 : u 35 = .bool true := hd 17 (by kernel_rfl)
      clear hd
      simp only [overlay, List.setIfInBounds_toArray, List.set, d16, d17] at hK ⊢
      go_wp2_with fail
      exact hK _ _ X (Ext.refl _) kept_m hX rfl
  · exact mem_nil_m
  intro u w9 X hE hX hd
  have d0 : u 18 = .agg #[(.int .i64 kx), (.slice q1 sx m1), (.slice q2 nx m2), (.slice q3 ix m3)] := hd 0 (by decide)
  have d1 : u 19 = .int .i64 k := hd 1 (by decide)
  have d2 : RdAll w9 fv (u 20) := hd 2 (by decide)
  have d3 : u 21 = .agg #[(.int .i64 kx), (.slice q1 sx m1), (.slice q2 nx m2), (.slice q3 ix m3)] := hd 3 (by decide)
  have d4 : u 22 = .int .i64 k := hd 4 (by decide)
  have d5 : RdAll w9 fv (u 23) := hd 5 (by decide)
  have d6 : u 24 = .bool true := hd 6 (by decide)
  have d7 : u 25 = .bool true := hd 7 (by decide)
  have d8 : u 26 = .agg #[(.int .i64 kx), (.slice q1 sx m1), (.slice q2 nx m2), (.slice q3 ix m3)] := hd 8 (by decide)
  have d9 : u 27 = .int .i64 k := hd 9 (by decide)
  have d10 : RdArs w9 cv (u 28) := hd 10 (by decide)
  have d11 : u 29 = .agg #[(.int .i64 kx), (.slice q1 sx m1), (.slice q2 nx m2), (.slice q3 ix m3)] := hd 11 (by decide)
  have d12 : u 30 = .int .i64 k := hd 12 (by decide)
  have d13 : RdArs w9 cv (u 31) := hd 13 (by decide)
  have d14 : u 32 = .bool true := hd 14 (by decide)
  have d15 : u 33 = .bool true := hd 15 (by decide)
  have d16 : u 34 = .bool true := hd 16 (by decide)
  have d17 : u 35 = .bool true := hd 17 (by decide)
  have d18 : u 36 = .bool true := hd 18 (by decide)
  clear hd
  simp only [overlay, List.setIfInBounds_toArray, List.set, d0, d1, d3, d4, d6, d7, d8, d9, d11, d12, d14, d15, d16, d17, d18]
  have e9 : Ext w2 w9 := (Ext.refl w2).drew.trans hE
  clear d0 d1 d2 d3 d4 d5 d6 d7 d8 d9 d10 d11 d12 d13 d14 d15 d16 d17 d18
  clear hX hE
  generalize u 20 = t20z1
  generalize u 23 = t23z1
  generalize u 28 = t28z1
  generalize u 31 = t31z1
  clear u
  obtain ⟨wk2, rfl⟩ : ∃ wx : World, wx = w9 := ⟨_, rfl⟩
  replace HBx := Lib.hid (HBx.out.ext e9)
  replace HAx := Lib.hid (HAx.out.ext e9)
  replace HE := Lib.hid (HE.out.trans (e9))
  clear e9
  go_wp2_with fail
  refine OnlyN.mk ?_
  go_wp2_with fail
  go_ret
  exact ⟨rfl, HE.out⟩
end Go.Proofs.Ytmpjnjhiklaofaa
