/-
  THE WALK of law06.OrderCompare: it returns true, and turns nothing that was there. (Printed by gen_ordcmp.py.)
-/
import Derived.Test.YtmpjnjhiklaofaaOrdLives
namespace Go.Proofs.Ytmpjnjhiklaofaa
set_option linter.unusedSimpArgs false
set_option linter.unusedVariables false
open Go.RowKit

set_option maxRecDepth 100000 in
set_option maxHeartbeats 8000000 in
theorem ordcmp_any (F G : Nat → Prop) (x y : Arr) (c0 c1 c2 c3 d0 d1 d2 d3 : Value) (w : World) (hx : ArrAt F w x c0 c1 c2 c3) (hy : ArrAt G w y d0 d1 d2 d3) :
    Calls Try.prog 6 #[.agg #[c0, c1, c2, c3], .agg #[d0, d1, d2, d3]] w fun e w' => e = .returned (.bool true) ∧ Ext w w' := by
  have hx' := hx
  have hy' := hy
  obtain ⟨kx, q1, sx, m1, q2, nx, m2, q3, ix, m3, rfl, rfl, rfl, rfl⟩ := hx'.form
  obtain ⟨ky, r1, sy, n1, r2, ny, n2, r3, iy, n3, rfl, rfl, rfl, rfl⟩ := hy'.form
  have HX := Lib.hid hx
  have HY := Lib.hid hy
  clear hx hy hx' hy'
  go_enter Try.func6, Try.ntmps6
  go_upto_region 1 with (fail)
  have hE0 : Ext w ((w.alloc (.cells #[.int .i64 kx, .slice q1 sx m1, .slice q2 nx m2, .slice q3 ix m3] 26)).alloc (.cells #[.int .i64 ky, .slice r1 sy n1, .slice r2 ny n2, .slice r3 iy n3] 26)) := ((Ext.refl _).alloc _).alloc _
  have hBX := (box_new w (.int .i64 kx) (.slice q1 sx m1) (.slice q2 nx m2) (.slice q3 ix m3)).ext ((Ext.refl _).alloc (.cells #[.int .i64 ky, .slice r1 sy n1, .slice r2 ny n2, .slice r3 iy n3] 26))
  have hBY := box_new (w.alloc (.cells #[.int .i64 kx, .slice q1 sx m1, .slice q2 nx m2, .slice q3 ix m3] 26)) (.int .i64 ky) (.slice r1 sy n1) (.slice r2 ny n2) (.slice r3 iy n3)
  rw [World.size_alloc] at hBY
  have HAx := Lib.hid (HX.out.ext hE0)
  have HAy := Lib.hid (HY.out.ext hE0)
  generalize ((w.alloc (.cells #[.int .i64 kx, .slice q1 sx m1, .slice q2 nx m2, .slice q3 ix m3] 26)).alloc (.cells #[.int .i64 ky, .slice r1 sy n1, .slice r2 ny n2, .slice r3 iy n3] 26)) = w1 at hE0 hBX hBY HAx HAy ⊢
  have HBx := Lib.hid hBX
  have HBy := Lib.hid hBY
  have HE := Lib.hid hE0
  clear hBX hBY hE0 HX HY
  obtain ⟨s0, s1, s2, s3⟩ := HBx.out.cell
  go_wp2_with fail
  refine (small_any _ _ _ _ _ _ w1 HAx.out).mono ?_
  rintro e w2 ⟨b1, rfl, hE1⟩
  replace HE := Lib.hid (HE.out.trans hE1)
  replace HBx := Lib.hid (HBx.out.ext hE1)
  replace HBy := Lib.hid (HBy.out.ext hE1)
  replace HAx := Lib.hid (HAx.out.ext hE1)
  replace HAy := Lib.hid (HAy.out.ext hE1)
  clear s0 s1 s2 s3 hE1
  obtain ⟨t0, t1, t2, t3⟩ := HBy.out.cell
  cases b1 with
  | false =>
    go_wp2_with fail
    refine (ordlives_any _).mono ?_
    rintro e wl ⟨rfl, hEl⟩
    go_wp2_with fail
    go_ret
    exact ⟨rfl, HE.out.trans hEl⟩
  | true =>
  go_wp2_with fail
  refine (small_any _ _ _ _ _ _ w2 HAy.out).mono ?_
  rintro e w3 ⟨b1, rfl, hE1⟩
  replace HE := Lib.hid (HE.out.trans hE1)
  replace HBx := Lib.hid (HBx.out.ext hE1)
  replace HBy := Lib.hid (HBy.out.ext hE1)
  replace HAx := Lib.hid (HAx.out.ext hE1)
  replace HAy := Lib.hid (HAy.out.ext hE1)
  clear t0 t1 t2 t3 hE1
  cases b1 with
  | false =>
    go_wp2_with fail
    refine (ordlives_any _).mono ?_
    rintro e wl ⟨rfl, hEl⟩
    go_wp2_with fail
    go_ret
    exact ⟨rfl, HE.out.trans hEl⟩
  | true =>
  generalize hcv : ocmpV x y = cv
  have HCV := Lib.hid hcv
  clear hcv
  obtain ⟨db, hdb⟩ : ∃ db, db = decide (cv < 0) := ⟨_, rfl⟩
  have hl1 : ∀ (w : World) (v1 v2 : Value), Rd w x v1 → Rd w y v2 → Calls Try.prog 32 #[v1, v2] w fun e w' => e = .returned (.bool db) ∧ Ext w w' := fun _ _ _ h1 h2 => by rw [hdb]; exact oless_rd HCV.out h1 h2
  have hl2 : ∀ (w : World) (v1 v2 : Value), Rd w x v1 → Rd w y v2 → Calls Try.prog 33 #[v1, v2] w fun e w' => e = .returned (.bool db) ∧ Ext w w' := fun _ _ _ h1 h2 => by rw [hdb]; exact roless_rd HCV.out h1 h2
  have HL1 := Lib.hid hl1
  have HL2 := Lib.hid hl2
  clear hl1 hl2 hdb
  go_wp2_with fail
  refine wp_region_x0 [MProp.is (.agg #[(.int .i64 kx), (.slice q1 sx m1), (.slice q2 nx m2), (.slice q3 ix m3)]), MProp.is (.agg #[(.int .i64 ky), (.slice r1 sy n1), (.slice r2 ny n2), (.slice r3 iy n3)]), MProp.is (.int .i64 cv), MProp.is (.agg #[(.int .i64 kx), (.slice q1 sx m1), (.slice q2 nx m2), (.slice q3 ix m3)]), MProp.is (.agg #[(.int .i64 ky), (.slice r1 sy n1), (.slice r2 ny n2), (.slice r3 iy n3)]), MProp.is (.int .i64 cv), MProp.is (.bool true), MProp.is (.bool true), MProp.is (.agg #[(.int .i64 kx), (.slice q1 sx m1), (.slice q2 nx m2), (.slice q3 ix m3)]), MProp.is (.agg #[(.int .i64 ky), (.slice r1 sy n1), (.slice r2 ny n2), (.slice r3 iy n3)]), MProp.is (.bool db), MProp.is (.agg #[(.int .i64 kx), (.slice q1 sx m1), (.slice q2 nx m2), (.slice q3 ix m3)]), MProp.is (.agg #[(.int .i64 ky), (.slice r1 sy n1), (.slice r2 ny n2), (.slice r3 iy n3)]), MProp.is (.bool db), MProp.is (.bool true), MProp.is (.bool true), MProp.is (.bool true), MProp.is (.bool true), MProp.is (.bool true), MProp.is (.bool true)] [0, 1, 2, 3, 4, 5, 6, 7, 8, 9, 10, 11, 12, 13, 14, 15, 16, 17, 18, 19] [] [14, 15, 16, 17, 18, 19, 20, 21, 22, 23, 24, 25, 26, 27, 28, 29, 30, 31, 32, 4] (by kernel_rfl) (by kernel_rfl) (by kernel_rfl) ?_ ?_ ?_
  · refine mem_cons_m ?_ (mem_cons_m ?_ (mem_cons_m ?_ (mem_cons_m ?_ (mem_cons_m ?_ (mem_cons_m ?_ (mem_cons_m ?_ (mem_cons_m ?_ (mem_cons_m ?_ (mem_cons_m ?_ (mem_cons_m ?_ (mem_cons_m ?_ (mem_cons_m ?_ (mem_cons_m ?_ (mem_cons_m ?_ (mem_cons_m ?_ (mem_cons_m ?_ (mem_cons_m ?_ (mem_cons_m ?_ (mem_cons_m ?_ (mem_nil_m))))))))))))))))))))
    · refine ⟨_, 14, rfl, by kernel_rfl, ?_⟩
      intro u w9 X hE hX hd K hK
      clear hd
      simp only [overlay, List.setIfInBounds_toArray, List.set] at hK ⊢
      have e9 : Ext w3 w9 := (Ext.refl w3).drew.trans hE
      obtain ⟨s0, s1, s2, s3⟩ := (HBx.out.ext e9).cell
      go_wp2_with fail
      exact hK _ _ X (Ext.refl _) kept_m hX rfl
    · refine ⟨_, 15, rfl, by kernel_rfl, ?_⟩
      intro u w9 X hE hX hd K hK
      clear hd
      simp only [overlay, List.setIfInBounds_toArray, List.set] at hK ⊢
      have e9 : Ext w3 w9 := (Ext.refl w3).drew.trans hE
      obtain ⟨s0, s1, s2, s3⟩ := (HBy.out.ext e9).cell
      go_wp2_with fail
      exact hK _ _ X (Ext.refl _) kept_m hX rfl
    · refine ⟨_, 16, rfl, by kernel_rfl, ?_⟩
      intro u w9 X hE hX hd K hK
      have d0 : u 14 = .agg #[(.int .i64 kx), (.slice q1 sx m1), (.slice q2 nx m2), (.slice q3 ix m3)] := hd 0 (by kernel_rfl)
      have d1 : u 15 = .agg #[(.int .i64 ky), (.slice r1 sy n1), (.slice r2 ny n2), (.slice r3 iy n3)] := hd 1 (by kernel_rfl)
      clear hd
      simp only [overlay, List.setIfInBounds_toArray, List.set, d0, d1] at hK ⊢
      have e9 : Ext w3 w9 := (Ext.refl w3).drew.trans hE
      go_wp2_with fail
      refine (ocmp_rd HCV.out ((RdX.old HAx.out e9 hX.lo)).rd ((RdX.old HAy.out e9 hX.lo)).rd).mono ?_
      rintro e w8 ⟨rfl, hE8⟩
      go_wp2_with fail
      exact hK _ _ X hE8 kept_m (hX.ext hE8) rfl
    · refine ⟨_, 17, rfl, by kernel_rfl, ?_⟩
      intro u w9 X hE hX hd K hK
      clear hd
      simp only [overlay, List.setIfInBounds_toArray, List.set] at hK ⊢
      have e9 : Ext w3 w9 := (Ext.refl w3).drew.trans hE
      obtain ⟨s0, s1, s2, s3⟩ := (HBx.out.ext e9).cell
      go_wp2_with fail
      exact hK _ _ X (Ext.refl _) kept_m hX rfl
    · refine ⟨_, 18, rfl, by kernel_rfl, ?_⟩
      intro u w9 X hE hX hd K hK
      clear hd
      simp only [overlay, List.setIfInBounds_toArray, List.set] at hK ⊢
      have e9 : Ext w3 w9 := (Ext.refl w3).drew.trans hE
      obtain ⟨s0, s1, s2, s3⟩ := (HBy.out.ext e9).cell
      go_wp2_with fail
      exact hK _ _ X (Ext.refl _) kept_m hX rfl
    · refine ⟨_, 19, rfl, by kernel_rfl, ?_⟩
      intro u w9 X hE hX hd K hK
      have d3 : u 17 = .agg #[(.int .i64 kx), (.slice q1 sx m1), (.slice q2 nx m2), (.slice q3 ix m3)] := hd 3 (by kernel_rfl)
      have d4 : u 18 = .agg #[(.int .i64 ky), (.slice r1 sy n1), (.slice r2 ny n2), (.slice r3 iy n3)] := hd 4 (by kernel_rfl)
      clear hd
      simp only [overlay, List.setIfInBounds_toArray, List.set, d3, d4] at hK ⊢
      have e9 : Ext w3 w9 := (Ext.refl w3).drew.trans hE
      go_wp2_with fail
      refine (rocmp_rd HCV.out ((RdX.old HAx.out e9 hX.lo)).rd ((RdX.old HAy.out e9 hX.lo)).rd).mono ?_
      rintro e w8 ⟨rfl, hE8⟩
      go_wp2_with fail
      exact hK _ _ X hE8 kept_m (hX.ext hE8) rfl
    · refine ⟨_, 20, rfl, by kernel_rfl, ?_⟩
      intro u w9 X hE hX hd K hK
      have d2 : u 16 = .int .i64 cv := hd 2 (by kernel_rfl)
      have d5 : u 19 = .int .i64 cv := hd 5 (by kernel_rfl)
      clear hd
      simp only [overlay, List.setIfInBounds_toArray, List.set, d2, d5] at hK ⊢
      go_wp2_with fail
      exact hK _ _ X (Ext.refl _) kept_m hX rfl
    · refine ⟨_, 21, rfl, by kernel_rfl, ?_⟩
      intro u w9 X hE hX hd K hK
      have d6 : u 20 = .bool true := hd 6 (by kernel_rfl)
      clear hd
      simp only [overlay, List.setIfInBounds_toArray, List.set, d6] at hK ⊢
      go_wp2_with fail
      exact hK _ _ X (Ext.refl _) kept_m hX rfl
    · refine ⟨_, 22, rfl, by kernel_rfl, ?_⟩
      intro u w9 X hE hX hd K hK
      have d7 : u 21 = .bool true := hd 7 (by kernel_rfl)
      clear hd
      simp only [overlay, List.setIfInBounds_toArray, List.set, d7] at hK ⊢
      have e9 : Ext w3 w9 := (Ext.refl w3).drew.trans hE
      obtain ⟨s0, s1, s2, s3⟩ := (HBx.out.ext e9).cell
      go_wp2_with fail
      exact hK _ _ X (Ext.refl _) kept_m hX rfl
    · refine ⟨_, 23, rfl, by kernel_rfl, ?_⟩
      intro u w9 X hE hX hd K hK
      have d7 : u 21 = .bool true := hd 7 (by kernel_rfl)
      clear hd
      simp only [overlay, List.setIfInBounds_toArray, List.set, d7] at hK ⊢
      have e9 : Ext w3 w9 := (Ext.refl w3).drew.trans hE
      obtain ⟨s0, s1, s2, s3⟩ := (HBy.out.ext e9).cell
      go_wp2_with fail
      exact hK _ _ X (Ext.refl _) kept_m hX rfl
    · refine ⟨_, 24, rfl, by kernel_rfl, ?_⟩
      intro u w9 X hE hX hd K hK
      have d8 : u 22 = .agg #[(.int .i64 kx), (.slice q1 sx m1), (.slice q2 nx m2), (.slice q3 ix m3)] := hd 8 (by kernel_rfl)
      have d9 : u 23 = .agg #[(.int .i64 ky), (.slice r1 sy n1), (.slice r2 ny n2), (.slice r3 iy n3)] := hd 9 (by kernel_rfl)
      have d7 : u 21 = .bool true := hd 7 (by kernel_rfl)
      clear hd
      simp only [overlay, List.setIfInBounds_toArray, List.set, d8, d9, d7] at hK ⊢
      have e9 : Ext w3 w9 := (Ext.refl w3).drew.trans hE
      go_wp2_with fail
      refine (HL1.out _ _ _ ((RdX.old HAx.out e9 hX.lo)).rd ((RdX.old HAy.out e9 hX.lo)).rd).mono ?_
      rintro e w8 ⟨rfl, hE8⟩
      go_wp2_with fail
      exact hK _ _ X hE8 kept_m (hX.ext hE8) rfl
    · refine ⟨_, 25, rfl, by kernel_rfl, ?_⟩
      intro u w9 X hE hX hd K hK
      have d7 : u 21 = .bool true := hd 7 (by kernel_rfl)
      clear hd
      simp only [overlay, List.setIfInBounds_toArray, List.set, d7] at hK ⊢
      have e9 : Ext w3 w9 := (Ext.refl w3).drew.trans hE
      obtain ⟨s0, s1, s2, s3⟩ := (HBx.out.ext e9).cell
      go_wp2_with fail
      exact hK _ _ X (Ext.refl _) kept_m hX rfl
    · refine ⟨_, 26, rfl, by kernel_rfl, ?_⟩
      intro u w9 X hE hX hd K hK
      have d7 : u 21 = .bool true := hd 7 (by kernel_rfl)
      clear hd
      simp only [overlay, List.setIfInBounds_toArray, List.set, d7] at hK ⊢
      have e9 : Ext w3 w9 := (Ext.refl w3).drew.trans hE
      obtain ⟨s0, s1, s2, s3⟩ := (HBy.out.ext e9).cell
      go_wp2_with fail
      exact hK _ _ X (Ext.refl _) kept_m hX rfl
    · refine ⟨_, 27, rfl, by kernel_rfl, ?_⟩
      intro u w9 X hE hX hd K hK
      have d11 : u 25 = .agg #[(.int .i64 kx), (.slice q1 sx m1), (.slice q2 nx m2), (.slice q3 ix m3)] := hd 11 (by kernel_rfl)
      have d12 : u 26 = .agg #[(.int .i64 ky), (.slice r1 sy n1), (.slice r2 ny n2), (.slice r3 iy n3)] := hd 12 (by kernel_rfl)
      have d7 : u 21 = .bool true := hd 7 (by kernel_rfl)
      clear hd
      simp only [overlay, List.setIfInBounds_toArray, List.set, d11, d12, d7] at hK ⊢
      have e9 : Ext w3 w9 := (Ext.refl w3).drew.trans hE
      go_wp2_with fail
      refine (HL2.out _ _ _ ((RdX.old HAx.out e9 hX.lo)).rd ((RdX.old HAy.out e9 hX.lo)).rd).mono ?_
      rintro e w8 ⟨rfl, hE8⟩
      go_wp2_with fail
      exact hK _ _ X hE8 kept_m (hX.ext hE8) rfl
    · refine ⟨_, 28, rfl, by kernel_rfl, ?_⟩
      intro u w9 X hE hX hd K hK
      have d10 : u 24 = .bool db := hd 10 (by kernel_rfl)
      have d13 : u 27 = .bool db := hd 13 (by kernel_rfl)
      have d7 : u 21 = .bool true := hd 7 (by kernel_rfl)
      clear hd
      simp only [overlay, List.setIfInBounds_toArray, List.set, d10, d13, d7] at hK ⊢
      go_wp2_with fail
      exact hK _ _ X (Ext.refl _) kept_m hX rfl
    · refine ⟨_, 29, rfl, by kernel_rfl, ?_⟩
      intro u w9 X hE hX hd K hK
      have d7 : u 21 = .bool true := hd 7 (by kernel_rfl)
      have d14 : u 28 = .bool true := hd 14 (by kernel_rfl)
      clear hd
      simp only [overlay, List.setIfInBounds_toArray, List.set, d7, d14] at hK ⊢
      go_wp2_with fail
      exact hK _ _ X (Ext.refl _) kept_m hX rfl
    · refine ⟨_, 30, rfl, by kernel_rfl, ?_⟩
      intro u w9 X hE hX hd K hK
      have d15 : u 29 = .bool true := hd 15 (by kernel_rfl)
      clear hd
      simp only [overlay, List.setIfInBounds_toArray, List.set, d15] at hK ⊢
      go_wp2_with fail
      exact hK _ _ X (Ext.refl _) kept_m hX rfl
    · refine ⟨_, 31, rfl, by kernel_rfl, ?_⟩
      intro u w9 X hE hX hd K hK
      have d16 : u 30 = .bool true := hd 16 (by kernel_rfl)
      clear hd
      simp only [overlay, List.setIfInBounds_toArray, List.set, d16] at hK ⊢
      have e9 : Ext w3 w9 := (Ext.refl w3).drew.trans hE
      go_wp2_with fail
      refine (ordlives_any w9).mono ?_
      rintro e w8 ⟨rfl, hE8⟩
      go_wp2_with fail
      exact hK _ _ X hE8 kept_m (hX.ext hE8) rfl
    · refine ⟨_, 32, rfl, by kernel_rfl, ?_⟩
      intro u w9 X hE hX hd K hK
      have d16 : u 30 = .bool true := hd 16 (by kernel_rfl)
      have d17 : u 31 = .bool true := hd 17 (by kernel_rfl)
      clear hd
      simp only [overlay, List.setIfInBounds_toArray, List.set, d16, d17] at hK ⊢
      go_wp2_with fail
      exact hK _ _ X (Ext.refl _) kept_m hX rfl
    · refine ⟨_, 4, rfl, by kernel_rfl, ?_⟩
      intro u w9 X hE hX hd K hK
      have d18 : u 32 = .bool true := hd 18 (by kernel_rfl)
      clear hd
      simp only [overlay, List.setIfInBounds_toArray, List.set, d18] at hK ⊢
      go_wp2_with fail
      exact hK _ _ X (Ext.refl _) kept_m hX rfl
  · exact mem_nil_m
  intro u w9 X hE hX hd
  have d0 : u 14 = .agg #[(.int .i64 kx), (.slice q1 sx m1), (.slice q2 nx m2), (.slice q3 ix m3)] := hd 0 (by decide)
  have d1 : u 15 = .agg #[(.int .i64 ky), (.slice r1 sy n1), (.slice r2 ny n2), (.slice r3 iy n3)] := hd 1 (by decide)
  have d2 : u 16 = .int .i64 cv := hd 2 (by decide)
  have d3 : u 17 = .agg #[(.int .i64 kx), (.slice q1 sx m1), (.slice q2 nx m2), (.slice q3 ix m3)] := hd 3 (by decide)
  have d4 : u 18 = .agg #[(.int .i64 ky), (.slice r1 sy n1), (.slice r2 ny n2), (.slice r3 iy n3)] := hd 4 (by decide)
  have d5 : u 19 = .int .i64 cv := hd 5 (by decide)
  have d6 : u 20 = .bool true := hd 6 (by decide)
  have d7 : u 21 = .bool true := hd 7 (by decide)
  have d8 : u 22 = .agg #[(.int .i64 kx), (.slice q1 sx m1), (.slice q2 nx m2), (.slice q3 ix m3)] := hd 8 (by decide)
  have d9 : u 23 = .agg #[(.int .i64 ky), (.slice r1 sy n1), (.slice r2 ny n2), (.slice r3 iy n3)] := hd 9 (by decide)
  have d10 : u 24 = .bool db := hd 10 (by decide)
  have d11 : u 25 = .agg #[(.int .i64 kx), (.slice q1 sx m1), (.slice q2 nx m2), (.slice q3 ix m3)] := hd 11 (by decide)
  have d12 : u 26 = .agg #[(.int .i64 ky), (.slice r1 sy n1), (.slice r2 ny n2), (.slice r3 iy n3)] := hd 12 (by decide)
  have d13 : u 27 = .bool db := hd 13 (by decide)
  have d14 : u 28 = .bool true := hd 14 (by decide)
  have d15 : u 29 = .bool true := hd 15 (by decide)
  have d16 : u 30 = .bool true := hd 16 (by decide)
  have d17 : u 31 = .bool true := hd 17 (by decide)
  have d18 : u 32 = .bool true := hd 18 (by decide)
  have d19 : u 4 = .bool true := hd 19 (by decide)
  clear hd
  simp only [overlay, List.setIfInBounds_toArray, List.set, d0, d1, d2, d3, d4, d5, d6, d7, d8, d9, d10, d11, d12, d13, d14, d15, d16, d17, d18, d19]
  have e9 : Ext w3 w9 := (Ext.refl w3).drew.trans hE
  clear d0 d1 d2 d3 d4 d5 d6 d7 d8 d9 d10 d11 d12 d13 d14 d15 d16 d17 d18 d19
  clear hX hE
  clear u
  obtain ⟨wk2, rfl⟩ : ∃ wx : World, wx = w9 := ⟨_, rfl⟩
  replace HBx := Lib.hid (HBx.out.ext e9)
  replace HAx := Lib.hid (HAx.out.ext e9)
  replace HBy := Lib.hid (HBy.out.ext e9)
  replace HAy := Lib.hid (HAy.out.ext e9)
  replace HE := Lib.hid (HE.out.trans (e9))
  clear e9
  go_wp2_with fail
  go_ret
  exact ⟨rfl, HE.out⟩
end Go.Proofs.Ytmpjnjhiklaofaa
