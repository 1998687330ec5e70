/-
  THE WALK of law04.CellBack: it returns true, and turns nothing that was there. (Printed by gen_cellback.py.)
-/
import Derived.Test.YtmpjnjhiklaofaaCellAwk
import Derived.Test.YtmpjnjhiklaofaaBackP
import Derived.Test.YtmpjnjhiklaofaaRRight
namespace Go.Proofs.Ytmpjnjhiklaofaa
set_option linter.unusedSimpArgs false
set_option linter.unusedVariables false
open Go.RowKit

set_option maxRecDepth 100000 in
set_option maxHeartbeats 8000000 in
theorem cellback_any (F G : Nat → Prop) (x y : Arr) (c0 c1 c2 c3 d0 d1 d2 d3 : Value) (k : Int) (w : World) (hx : ArrAt F w x c0 c1 c2 c3) (hy : ArrAt G w y d0 d1 d2 d3) (hk : -9223372036854775808 ≤ k ∧ k ≤ 9223372036854775807) :
    Calls Try.prog 13 #[.agg #[c0, c1, c2, c3], .agg #[d0, d1, d2, d3], .int .i64 k] w fun e w' => e = .returned (.bool true) ∧ Ext w w' := by
  have hy' := hy
  obtain ⟨kx, s, nx, ix⟩ := x
  have hx' := hx
  unfold ArrAt at hx'
  obtain ⟨rfl, hkx, ⟨q1, m1, rfl, ⟨o1, o1', o1''⟩, _⟩, ⟨q2, m2, rfl, ⟨o2, o2', o2''⟩, _⟩, ⟨q3, m3, rfl, ⟨o3, o3', o3''⟩, _⟩⟩ := hx'
  obtain ⟨ky, r1, sy, n1, r2, ny, n2, r3, iy, n3, rfl, rfl, rfl, rfl⟩ := hy'.form
  have HX := Lib.hid hx
  have HY := Lib.hid hy
  have HKB := Lib.hid hk
  clear hx hy hy' hk
  go_enter Try.func13, Try.ntmps13
  go_upto_region 1 with (fail)
  have hE0 : Ext w ((w.alloc (.cells #[.int .i64 kx, .slice q1 s.length m1, .slice q2 nx.length m2, .slice q3 ix.length m3] 26)).alloc (.cells #[.int .i64 ky, .slice r1 sy n1, .slice r2 ny n2, .slice r3 iy n3] 26)) := ((Ext.refl _).alloc _).alloc _
  have hBX := (box_new w (.int .i64 kx) (.slice q1 s.length m1) (.slice q2 nx.length m2) (.slice q3 ix.length m3)).ext ((Ext.refl _).alloc (.cells #[.int .i64 ky, .slice r1 sy n1, .slice r2 ny n2, .slice r3 iy n3] 26))
  have hBY := box_new (w.alloc (.cells #[.int .i64 kx, .slice q1 s.length m1, .slice q2 nx.length m2, .slice q3 ix.length m3] 26)) (.int .i64 ky) (.slice r1 sy n1) (.slice r2 ny n2) (.slice r3 iy n3)
  rw [World.size_alloc] at hBY
  have HAx := Lib.hid (HX.out.ext hE0)
  have HAy := Lib.hid (HY.out.ext hE0)
  generalize ((w.alloc (.cells #[.int .i64 kx, .slice q1 s.length m1, .slice q2 nx.length m2, .slice q3 ix.length m3] 26)).alloc (.cells #[.int .i64 ky, .slice r1 sy n1, .slice r2 ny n2, .slice r3 iy n3] 26)) = w1 at hE0 hBX hBY HAx HAy ⊢
  have HBx := Lib.hid hBX
  have HBy := Lib.hid hBY
  have HE := Lib.hid hE0
  clear hBX hBY hE0 HX HY
  obtain ⟨s0, s1, s2, s3⟩ := HBx.out.cell
  go_wp2_with fail
  refine (few_any _ _ _ _ _ _ 500 w1 HAx.out).mono ?_
  rintro e w2 ⟨rfl, hE1⟩
  replace HE := Lib.hid (HE.out.trans hE1)
  replace HBx := Lib.hid (HBx.out.ext hE1)
  replace HBy := Lib.hid (HBy.out.ext hE1)
  replace HAx := Lib.hid (HAx.out.ext hE1)
  replace HAy := Lib.hid (HAy.out.ext hE1)
  clear s0 s1 s2 s3 hE1
  cases hf1 : fewV (.mk kx s nx ix) 500 with
  | false =>
    clear hf1
    go_wp2_with fail
    refine (cellawake_any _).mono ?_
    rintro e wl ⟨rfl, hEl⟩
    go_wp2_with fail
    go_ret
    exact ⟨rfl, HE.out.trans hEl⟩
  | true =>
  clear hf1
  obtain ⟨s0, s1, s2, s3⟩ := HBy.out.cell
  go_wp2_with fail
  refine (few_any _ _ _ _ _ _ 100 w2 HAy.out).mono ?_
  rintro e w3 ⟨rfl, hE1⟩
  replace HE := Lib.hid (HE.out.trans hE1)
  replace HBx := Lib.hid (HBx.out.ext hE1)
  replace HBy := Lib.hid (HBy.out.ext hE1)
  replace HAx := Lib.hid (HAx.out.ext hE1)
  replace HAy := Lib.hid (HAy.out.ext hE1)
  clear s0 s1 s2 s3 hE1
  cases hf1 : fewV y 100 with
  | false =>
    clear hf1
    go_wp2_with fail
    refine (cellawake_any _).mono ?_
    rintro e wl ⟨rfl, hEl⟩
    go_wp2_with fail
    go_ret
    exact ⟨rfl, HE.out.trans hEl⟩
  | true =>
  clear hf1
  obtain ⟨s0, s1, s2, s3⟩ := HBx.out.cell
  go_wp2_with fail
  refine (rright6_any _ _ _ _ _ _ w3 HAx.out).mono ?_
  rintro e w4 ⟨rfl, hE1⟩
  replace HE := Lib.hid (HE.out.trans hE1)
  replace HBx := Lib.hid (HBx.out.ext hE1)
  replace HBy := Lib.hid (HBy.out.ext hE1)
  replace HAx := Lib.hid (HAx.out.ext hE1)
  replace HAy := Lib.hid (HAy.out.ext hE1)
  clear s0 s1 s2 s3 hE1
  by_cases hr : rightV (.mk kx s nx ix) = 0
  rotate_left
  · have hr1 : (rightV (.mk kx s nx ix) != 0) = true := by simpa using hr
    generalize rightV (.mk kx s nx ix) = rr at *
    go_wp2_with fail
    refine (cellawake_any _).mono ?_
    rintro e wl ⟨rfl, hEl⟩
    go_wp2_with fail
    go_ret
    exact ⟨rfl, HE.out.trans hEl⟩
  obtain ⟨f, c, z, ok⟩ := cells_ok hr k
  have hjb := fun hc => join_back hr ok hc y
  have hzf := cells_zero hr ok
  have h8 : s.length ≤ 8 := (right_parts hr).2.1
  have hfl : (frameV (.mk kx s nx ix) k).length = f := by
    have := ok.hf
    rw [ok.fr, List.length_take]
    simp only [Arr.sh] at this ⊢
    omega
  have hcl : (cellsV (.mk kx s nx ix) k).length = c := by rw [ok.ce]; simp
  have hce : ∀ i (h : i < (cellsV (.mk kx s nx ix) k).length), ((cellsV (.mk kx s nx ix) k)[i]).n.length + ((cellsV (.mk kx s nx ix) k)[i]).it.length = z := fun i h => by
    have h1 := (cell_facts hr ok (i := i) (by omega)).2.1
    have h2 : (cellsV (.mk kx s nx ix) k)[i] = partV (.mk kx s nx ix) (i * z) z (Arr.sh (.mk kx s nx ix) |>.drop f) := by
      simp only [ok.ce, List.getElem_map, List.getElem_range]
    rw [h2]; exact h1
  have htot : nx.length + ix.length = c * z := by
    have e1 := ok.nn
    have e2 := ok.ii
    simp only [Arr.k, Arr.n, Arr.it] at e1 e2
    by_cases h3 : kx = 3
    · obtain ⟨a1, a2⟩ := e2 h3; rw [a1, a2]; simp
    · obtain ⟨a1, a2⟩ := e1 h3; rw [a1, a2]; simp
  have hrk : rankV k s.length = (s.length : Int) - f := by have := ok.rk; simp only [Arr.sh] at this; omega
  have hff : f ≤ s.length := ok.hf
  have hcz : c * z ≤ 65536 + 65536 := by
    have h1 := (right_parts hr).2.2.2.1
    have h2 := (right_parts hr).2.2.2.2
    have h3 := shapeSize_hi s
    by_cases hk3 : kx = 3
    · have := h2 hk3; rw [← htot, this.1]; simp only [List.length_nil]; omega
    · have := h1 hk3; rw [← htot, this.1]; simp only [List.length_nil]; omega
  have hc6 : c ≤ 65536 := by have h1 := ok.sc; have h3 := shapeSize_hi (Arr.sh (.mk kx s nx ix) |>.take f); omega
  obtain ⟨rk, hrk2⟩ : ∃ rk, rankV k s.length = rk := ⟨_, rfl⟩
  have HRK := Lib.hid hrk2
  have hws : IntKind.i64.wrap ((f : Int) + rk) = (s.length : Int) := by rw [show (f : Int) + rk = s.length by omega]; exact IntWalk.i64_in _ (by omega)
  rw [hr]
  generalize hfv : frameV (.mk kx s nx ix) k = fr at *
  generalize hcv : cellsV (.mk kx s nx ix) k = cs at *
  have HFV := Lib.hid hfv
  have HCV := Lib.hid hcv
  have HJB := Lib.hid hjb
  have HZF := Lib.hid hzf
  have HCE := Lib.hid hce
  have HTOT := Lib.hid htot
  have HFL := Lib.hid hfl
  have HCL := Lib.hid hcl
  clear hfv hcv hjb hzf hce htot hfl hcl ok hr hrk hrk2 hkx
  go_wp2_with fail
  refine wp_region_x1 [MProp.is (.agg #[.int .i64 kx, .slice q1 s.length m1, .slice q2 nx.length m2, .slice q3 ix.length m3]), MProp.is (.int .i64 k), MProp.rall fr, MProp.is (.agg #[.int .i64 kx, .slice q1 s.length m1, .slice q2 nx.length m2, .slice q3 ix.length m3]), MProp.is (.int .i64 k), MProp.rars cs, MProp.rall fr] [0, 1, 2, 3, 4, 5, 6] [] [28, 29, 30, 31, 32, 33, 7] 7 (by kernel_rfl) (by kernel_rfl) (by kernel_rfl) rfl ?_ ?_ ?_
  · refine mem_cons_m ?_ (mem_cons_m ?_ (mem_cons_m ?_ (mem_cons_m ?_ (mem_cons_m ?_ (mem_cons_m ?_ (mem_cons_m ?_ (mem_nil_m)))))))
    · refine ⟨_, 28, rfl, by kernel_rfl, ?_⟩
      intro u w9 X hE hX hd K hK
      clear hd
      simp only [overlay, List.setIfInBounds_toArray, List.set] at hK ⊢
      have e9 : Ext w4 w9 := (Ext.refl w4).drew.trans hE
      obtain ⟨s0, s1, s2, s3⟩ := (HBx.out.ext e9).cell
      go_wp2_with fail
      exact hK _ _ X (Ext.refl _) kept_m hX rfl
    · refine ⟨_, 29, rfl, by kernel_rfl, ?_⟩
      intro u w9 X hE hX hd K hK
      clear hd
      simp only [overlay, List.setIfInBounds_toArray, List.set] at hK ⊢
      go_wp2_with fail
      exact hK _ _ X (Ext.refl _) kept_m hX rfl
    · refine ⟨_, 30, rfl, by kernel_rfl, ?_⟩
      intro u w9 X hE hX hd K hK
      have d0 : u 28 = .agg #[.int .i64 kx, .slice q1 s.length m1, .slice q2 nx.length m2, .slice q3 ix.length m3] := hd 0 (by kernel_rfl)
      have d1 : u 29 = .int .i64 k := hd 1 (by kernel_rfl)
      clear hd
      simp only [overlay, List.setIfInBounds_toArray, List.set, d0, d1] at hK ⊢
      have e9 : Ext w4 w9 := (Ext.refl w4).drew.trans hE
      go_wp2_with fail
      refine (frame_rd HFV.out (Rd.mk HAx.out |>.ext e9) HKB.out).mono ?_
      rintro e w8 ⟨x8, rfl, hx8, hE8⟩
      go_wp2_with fail
      exact hK _ _ X hE8 kept_m (hX.ext hE8) hx8
    · refine ⟨_, 31, rfl, by kernel_rfl, ?_⟩
      intro u w9 X hE hX hd K hK
      clear hd
      simp only [overlay, List.setIfInBounds_toArray, List.set] at hK ⊢
      have e9 : Ext w4 w9 := (Ext.refl w4).drew.trans hE
      obtain ⟨s0, s1, s2, s3⟩ := (HBx.out.ext e9).cell
      go_wp2_with fail
      exact hK _ _ X (Ext.refl _) kept_m hX rfl
    · refine ⟨_, 32, rfl, by kernel_rfl, ?_⟩
      intro u w9 X hE hX hd K hK
      clear hd
      simp only [overlay, List.setIfInBounds_toArray, List.set] at hK ⊢
      go_wp2_with fail
      exact hK _ _ X (Ext.refl _) kept_m hX rfl
    · refine ⟨_, 33, rfl, by kernel_rfl, ?_⟩
      intro u w9 X hE hX hd K hK
      have d3 : u 31 = .agg #[.int .i64 kx, .slice q1 s.length m1, .slice q2 nx.length m2, .slice q3 ix.length m3] := hd 3 (by kernel_rfl)
      have d4 : u 32 = .int .i64 k := hd 4 (by kernel_rfl)
      clear hd
      simp only [overlay, List.setIfInBounds_toArray, List.set, d3, d4] at hK ⊢
      have e9 : Ext w4 w9 := (Ext.refl w4).drew.trans hE
      go_wp2_with fail
      refine (cells_rd HCV.out (Rd.mk HAx.out |>.ext e9) HKB.out).mono ?_
      rintro e w8 ⟨x8, rfl, hx8, hE8⟩
      go_wp2_with fail
      exact hK _ _ X hE8 kept_m (hX.ext hE8) hx8
    · refine ⟨_, 7, rfl, by kernel_rfl, ?_⟩
      intro u w9 X hE hX hd K hK
      have d2 : RdAll w9 fr (u 30) := hd 2 (by kernel_rfl)
      clear hd
      simp only [overlay, List.setIfInBounds_toArray, List.set] at hK ⊢
      go_wp2_with fail
      exact hK _ _ X (Ext.refl _) kept_m hX d2
  · exact mem_nil_m
  intro u w9 X hE hX hd
  have d0 : u 28 = .agg #[.int .i64 kx, .slice q1 s.length m1, .slice q2 nx.length m2, .slice q3 ix.length m3] := hd 0 (by decide)
  have d1 : u 29 = .int .i64 k := hd 1 (by decide)
  have d2 : RdAll w9 fr (u 30) := hd 2 (by decide)
  have d3 : u 31 = .agg #[.int .i64 kx, .slice q1 s.length m1, .slice q2 nx.length m2, .slice q3 ix.length m3] := hd 3 (by decide)
  have d4 : u 32 = .int .i64 k := hd 4 (by decide)
  have d5 : RdArs w9 cs (u 33) := hd 5 (by decide)
  have d6 : RdAll w9 fr (u 7) := hd 6 (by decide)
  clear hd
  simp only [overlay, List.setIfInBounds_toArray, List.set, d0, d1, d3, d4]
  obtain ⟨pf, cf, hvf, hkf, hif⟩ := d6
  obtain ⟨Gc, pc, cc, hvc, hkc, hic⟩ := d5
  have e9 : Ext w4 w9 := (Ext.refl w4).drew.trans hE
  rw [HFL.out] at hvf hkf
  rw [HCL.out] at hvc hkc
  simp only [hvf, hvc]
  have HIF := Lib.hid hif
  have HIC := Lib.hid hic
  have HKF := Lib.hid hkf
  have HKC := Lib.hid hkc
  obtain ⟨hkf1, hkf2, hkf3⟩ := hkf
  obtain ⟨hkc1, hkc2, hkc3⟩ := hkc
  replace HE := Lib.hid (HE.out.trans e9)
  replace HBx := Lib.hid (HBx.out.ext e9)
  replace HBy := Lib.hid (HBy.out.ext e9)
  replace HAx := Lib.hid (HAx.out.ext e9)
  replace HAy := Lib.hid (HAy.out.ext e9)
  clear d0 d1 d2 d3 d4 hif hic hX hE e9
  generalize u 30 = z30 at *
  clear hvf hvc
  clear u
  obtain ⟨w5, hw5⟩ : ∃ wx : World, wx = w9 := ⟨_, rfl⟩
  rw [← hw5] at HE HBx HBy HAx HAy HIF HIC ⊢
  clear hw5
  go_wp2_with fail
  refine OnlyN.mk ?_
  go_wp2_with fail
  refine wp_region_x0 [MProp.is (.slice pf f cf), MProp.is (.int .i64 (f : Int)), MProp.is (.int .i64 k), MProp.is (.pointer (some ⟨w.heap.size, 1, none⟩)), MProp.is (.slice q1 s.length m1), MProp.is (.int .i64 (s.length : Int)), MProp.is (.int .i64 rk), MProp.is (.int .i64 (s.length : Int)), MProp.is (.pointer (some ⟨w.heap.size, 1, none⟩)), MProp.is (.slice q1 s.length m1), MProp.is (.int .i64 (s.length : Int)), MProp.is (.bool false)] [0, 1, 2, 3, 4, 5, 6, 7, 8, 9, 10, 11] [] [34, 35, 36, 37, 38, 39, 40, 41, 42, 43, 44, 45] (by kernel_rfl) (by kernel_rfl) (by kernel_rfl) ?_ ?_ ?_
  · refine mem_cons_m ?_ (mem_cons_m ?_ (mem_cons_m ?_ (mem_cons_m ?_ (mem_cons_m ?_ (mem_cons_m ?_ (mem_cons_m ?_ (mem_cons_m ?_ (mem_cons_m ?_ (mem_cons_m ?_ (mem_cons_m ?_ (mem_cons_m ?_ (mem_nil_m))))))))))))
    · refine ⟨_, 34, rfl, by kernel_rfl, ?_⟩
      intro u w9 X hE hX hd K hK
      clear hd
      simp only [overlay, List.setIfInBounds_toArray, List.set] at hK ⊢
      go_wp2_with fail
      exact hK _ _ X (Ext.refl _) kept_m hX rfl
    · refine ⟨_, 35, rfl, by kernel_rfl, ?_⟩
      intro u w9 X hE hX hd K hK
      have d0 : u 34 = .slice pf f cf := hd 0 (by kernel_rfl)
      clear hd
      simp only [overlay, List.setIfInBounds_toArray, List.set, d0] at hK ⊢
      go_wp2_with fail
      exact hK _ _ X (Ext.refl _) kept_m hX rfl
    · refine ⟨_, 36, rfl, by kernel_rfl, ?_⟩
      intro u w9 X hE hX hd K hK
      clear hd
      simp only [overlay, List.setIfInBounds_toArray, List.set] at hK ⊢
      go_wp2_with fail
      exact hK _ _ X (Ext.refl _) kept_m hX rfl
    · refine ⟨_, 37, rfl, by kernel_rfl, ?_⟩
      intro u w9 X hE hX hd K hK
      clear hd
      simp only [overlay, List.setIfInBounds_toArray, List.set] at hK ⊢
      go_wp2_with fail
      exact hK _ _ X (Ext.refl _) kept_m hX rfl
    · refine ⟨_, 38, rfl, by kernel_rfl, ?_⟩
      intro u w9 X hE hX hd K hK
      have d3 : u 37 = .pointer (some ⟨w.heap.size, 1, none⟩) := hd 3 (by kernel_rfl)
      clear hd
      simp only [overlay, List.setIfInBounds_toArray, List.set, d3] at hK ⊢
      have e9 : Ext w5 w9 := (Ext.refl w5).drew.trans hE
      obtain ⟨s0, s1, s2, s3⟩ := (HBx.out.ext e9).cell
      go_wp2_with fail
      exact hK _ _ X (Ext.refl _) kept_m hX rfl
    · refine ⟨_, 39, rfl, by kernel_rfl, ?_⟩
      intro u w9 X hE hX hd K hK
      have d4 : u 38 = .slice q1 s.length m1 := hd 4 (by kernel_rfl)
      clear hd
      simp only [overlay, List.setIfInBounds_toArray, List.set, d4] at hK ⊢
      go_wp2_with fail
      exact hK _ _ X (Ext.refl _) kept_m hX rfl
    · refine ⟨_, 40, rfl, by kernel_rfl, ?_⟩
      intro u w9 X hE hX hd K hK
      have d2 : u 36 = .int .i64 k := hd 2 (by kernel_rfl)
      have d5 : u 39 = .int .i64 (s.length : Int) := hd 5 (by kernel_rfl)
      clear hd
      simp only [overlay, List.setIfInBounds_toArray, List.set, d2, d5] at hK ⊢
      have e9 : Ext w5 w9 := (Ext.refl w5).drew.trans hE
      go_wp2_with fail
      refine (crank_is HRK.out HKB.out (by omega)).mono ?_
      rintro e w8 ⟨rfl, hE8⟩
      go_wp2_with fail
      exact hK _ _ X hE8 kept_m (hX.ext hE8) rfl
    · refine ⟨_, 41, rfl, by kernel_rfl, ?_⟩
      intro u w9 X hE hX hd K hK
      have d1 : u 35 = .int .i64 (f : Int) := hd 1 (by kernel_rfl)
      have d6 : u 40 = .int .i64 rk := hd 6 (by kernel_rfl)
      clear hd
      simp only [overlay, List.setIfInBounds_toArray, List.set, d1, d6] at hK ⊢
      go_wp2_with fail
      exact hK _ _ X (Ext.refl _) kept_m hX rfl
    · refine ⟨_, 42, rfl, by kernel_rfl, ?_⟩
      intro u w9 X hE hX hd K hK
      clear hd
      simp only [overlay, List.setIfInBounds_toArray, List.set] at hK ⊢
      go_wp2_with fail
      exact hK _ _ X (Ext.refl _) kept_m hX rfl
    · refine ⟨_, 43, rfl, by kernel_rfl, ?_⟩
      intro u w9 X hE hX hd K hK
      have d8 : u 42 = .pointer (some ⟨w.heap.size, 1, none⟩) := hd 8 (by kernel_rfl)
      clear hd
      simp only [overlay, List.setIfInBounds_toArray, List.set, d8] at hK ⊢
      have e9 : Ext w5 w9 := (Ext.refl w5).drew.trans hE
      obtain ⟨s0, s1, s2, s3⟩ := (HBx.out.ext e9).cell
      go_wp2_with fail
      exact hK _ _ X (Ext.refl _) kept_m hX rfl
    · refine ⟨_, 44, rfl, by kernel_rfl, ?_⟩
      intro u w9 X hE hX hd K hK
      have d9 : u 43 = .slice q1 s.length m1 := hd 9 (by kernel_rfl)
      clear hd
      simp only [overlay, List.setIfInBounds_toArray, List.set, d9] at hK ⊢
      go_wp2_with fail
      exact hK _ _ X (Ext.refl _) kept_m hX rfl
    · refine ⟨_, 45, rfl, by kernel_rfl, ?_⟩
      intro u w9 X hE hX hd K hK
      have d7 : u 41 = .int .i64 (s.length : Int) := hd 7 (by kernel_rfl)
      have d10 : u 44 = .int .i64 (s.length : Int) := hd 10 (by kernel_rfl)
      clear hd
      simp only [overlay, List.setIfInBounds_toArray, List.set, d7, d10] at hK ⊢
      go_wp2_with fail
      exact hK _ _ X (Ext.refl _) kept_m hX rfl
  · exact mem_nil_m
  intro u w9 X hE hX hd
  have d0 : u 34 = .slice pf f cf := hd 0 (by decide)
  have d1 : u 35 = .int .i64 (f : Int) := hd 1 (by decide)
  have d2 : u 36 = .int .i64 k := hd 2 (by decide)
  have d3 : u 37 = .pointer (some ⟨w.heap.size, 1, none⟩) := hd 3 (by decide)
  have d4 : u 38 = .slice q1 s.length m1 := hd 4 (by decide)
  have d5 : u 39 = .int .i64 (s.length : Int) := hd 5 (by decide)
  have d6 : u 40 = .int .i64 rk := hd 6 (by decide)
  have d7 : u 41 = .int .i64 (s.length : Int) := hd 7 (by decide)
  have d8 : u 42 = .pointer (some ⟨w.heap.size, 1, none⟩) := hd 8 (by decide)
  have d9 : u 43 = .slice q1 s.length m1 := hd 9 (by decide)
  have d10 : u 44 = .int .i64 (s.length : Int) := hd 10 (by decide)
  have d11 : u 45 = .bool false := hd 11 (by decide)
  clear hd
  simp only [overlay, List.setIfInBounds_toArray, List.set, d0, d1, d2, d3, d4, d5, d6, d7, d8, d9, d10, d11]
  have e9 : Ext w5 w9 := (Ext.refl w5).drew.trans hE
  clear d0 d1 d2 d3 d4 d5 d6 d7 d8 d9 d10 d11
  clear hX hE
  clear u
  obtain ⟨wk2, rfl⟩ : ∃ wx : World, wx = w9 := ⟨_, rfl⟩
  replace HBx := Lib.hid (HBx.out.ext e9)
  replace HAx := Lib.hid (HAx.out.ext e9)
  replace HBy := Lib.hid (HBy.out.ext e9)
  replace HAy := Lib.hid (HAy.out.ext e9)
  replace HIF := Lib.hid (HIF.out.ext e9)
  replace HIC := Lib.hid (HIC.out.ext e9)
  replace HE := Lib.hid (HE.out.trans (e9))
  clear e9
  go_wp2_with fail
  go_loopw [9] (fun iv wr => ∃ (i : Nat), iv = .int .i64 (i : Int) ∧ i ≤ f ∧ Ext wk2 wr ∧ Hid ((0 : Int) ∉ fr.take i)) (fun iv _ => f - (intOf iv).toNat)
  case atStart => exact ⟨0, rfl, Nat.zero_le _, Ext.refl _, Lib.hid (by simp)⟩
  case round =>
  obtain ⟨i, rfl, hif, hEr, HZ⟩ := hrel
  by_cases hlt : i < f
  · have hflr := HFL.out
    obtain ⟨b1, f1, rfl, a1, _, _⟩ := (HIF.out.ext hEr).get (i := i) (by rw [hflr]; exact hlt)
    by_cases h0 : fr.getD i 0 = 0
    · have hm : (0 : Int) ∈ fr := by rw [← h0]; simp only [List.getD, show i < fr.length by omega, List.getElem?_eq_getElem, Option.getD_some]; exact List.getElem_mem _
      have hc0 := HZF.out.2 hm
      subst hc0
      rw [h0] at a1
      clear hflr hm h0 HZ
      go_wp2_with fail
      refine (cellawake_any _).mono ?_
      rintro e wl ⟨rfl, hEl⟩
      go_wp2_with fail
      go_ret
      exact ⟨rfl, (HE.out.trans hEr).trans hEl⟩
    · have HZ2 : Hid ((0 : Int) ∉ fr.take (i + 1)) := by
        show _
        intro hm
        rw [List.take_succ_eq_append_getElem (by omega)] at hm
        rcases List.mem_append.1 hm with h | h
        · exact HZ.out h
        · rw [List.mem_singleton] at h
          apply h0
          simp only [List.getD, show i < fr.length by omega, List.getElem?_eq_getElem, Option.getD_some]
          exact h.symm
      generalize fr.getD i 0 = fv at *
      clear hflr HZ
      go_wp2_with fail
      go_roundw
      case rel => exact ⟨i + 1, by go_num, by omega, hEr, HZ2⟩
      case measure => simp [intOf]; omega
  have hie : f = i := by omega
  subst hie
  have hnz : (0 : Int) ∉ fr := by
    have h := HZ.out
    rwa [List.take_of_length_le (by rw [HFL.out]; exact Nat.le_refl _)] at h
  have hc0 : 0 < c := Nat.pos_of_ne_zero fun h => hnz (HZF.out.1 h)
  have hjb := HJB.out hc0
  have HJ := Lib.hid hjb
  clear HZF HZ HJB hnz hjb hlt hif
  obtain ⟨w6, rfl⟩ : ∃ wx : World, wx = wr := ⟨_, rfl⟩
  replace HE := Lib.hid (HE.out.trans hEr)
  replace HBx := Lib.hid (HBx.out.ext hEr)
  replace HBy := Lib.hid (HBy.out.ext hEr)
  replace HAx := Lib.hid (HAx.out.ext hEr)
  replace HAy := Lib.hid (HAy.out.ext hEr)
  replace HIF := Lib.hid (HIF.out.ext hEr)
  replace HIC := Lib.hid (HIC.out.ext hEr)
  clear hEr
  go_wp2_with fail
  go_loopw [10, 11] (fun nv iv wr => ∃ (i a : Nat), nv = .int .i64 (a : Int) ∧ iv = .int .i64 (i : Int) ∧ i ≤ c ∧ a ≤ 200000 ∧ Hid (a = i * z) ∧ Ext w6 wr) (fun _ iv _ => c - (intOf iv).toNat)
  case atStart => exact ⟨0, 0, rfl, rfl, Nat.zero_le _, by omega, Lib.hid (by simp), Ext.refl _⟩
  case round =>
  obtain ⟨i, a, rfl, rfl, hic, ha, HA, hEr⟩ := hrel
  by_cases hlt : i < c
  · have hclr := HCL.out
    obtain ⟨b1, f1, y0, y1, y2, y3, rfl, _, g0, g1, g2, g3, hy⟩ := ItemsAt.get cs _ 0 i (HIC.out.ext hEr) (by rw [hclr]; exact hlt)
    rw [Nat.zero_add] at g0 g1 g2 g3
    have hln := HCE.out i (by rw [hclr]; exact hlt)
    generalize cs[i] = y9 at *
    obtain ⟨yk, ys, yn, yi⟩ := y9
    unfold ArrAt at hy
    obtain ⟨rfl, _, ⟨t1, u1, rfl, _, _⟩, ⟨t2, u2, rfl, _, _⟩, ⟨t3, u3, rfl, _, _⟩⟩ := hy
    simp only [Arr.n, Arr.it] at hln
    have hw1 : IntKind.i64.wrap ((yn.length : Int) + (yi.length : Int)) = (z : Int) := by rw [show (yn.length : Int) + (yi.length : Int) = (z : Int) by omega]; exact IntWalk.i64_in _ (by have : z ≤ c * z := Nat.le_mul_of_pos_left z hc0; omega)
    have hle : (i + 1) * z ≤ c * z := Nat.mul_le_mul_right z hlt
    have haz : a + z = (i + 1) * z := by rw [HA.out, Nat.succ_mul]
    obtain ⟨a', ha'⟩ : ∃ a', a + z = a' := ⟨_, rfl⟩
    have hw2 : IntKind.i64.wrap ((a : Int) + (z : Int)) = (a' : Int) := by rw [show (a : Int) + (z : Int) = (a' : Int) by omega]; exact IntWalk.i64_in _ (by omega)
    have HA2 : Hid (a' = (i + 1) * z) := Lib.hid (by rw [← ha', haz])
    have ha6 : a' ≤ 200000 := by omega
    clear hclr hln hle haz ha' HA
    go_wp2_with fail
    go_quiet (fail)
    go_wp2_with fail
    go_roundw
    case rel => exact ⟨i + 1, a', rfl, by go_num, by omega, ha6, HA2, hEr.drewN _⟩
    case measure => simp [intOf]; omega
  have hie : c = i := by omega
  subst hie
  have hat : (a : Int) = IntKind.i64.wrap ((nx.length : Int) + (ix.length : Int)) := by
    rw [show (nx.length : Int) + (ix.length : Int) = (a : Int) by have := HTOT.out; have := HA.out; omega]
    exact (IntWalk.i64_in _ (by omega)).symm
  have HAT := Lib.hid hat
  clear HA hat hlt hic
  obtain ⟨w7, rfl⟩ : ∃ wx : World, wx = wr := ⟨_, rfl⟩
  replace HE := Lib.hid (HE.out.trans hEr)
  replace HBx := Lib.hid (HBx.out.ext hEr)
  replace HBy := Lib.hid (HBy.out.ext hEr)
  replace HAx := Lib.hid (HAx.out.ext hEr)
  replace HAy := Lib.hid (HAy.out.ext hEr)
  replace HIF := Lib.hid (HIF.out.ext hEr)
  replace HIC := Lib.hid (HIC.out.ext hEr)
  clear hEr
  obtain ⟨s0, s1, s2, s3⟩ := HBy.out.cell
  have hra : RdAll w7 fr (.slice pf f cf) := ⟨pf, cf, by rw [HFL.out], by rw [HFL.out]; exact HKF.out, HIF.out⟩
  have hrs : RdArs w7 cs (.slice pc c cc) := ⟨_, pc, cc, by rw [HCL.out], by rw [HCL.out]; exact HKC.out, HIC.out⟩
  have HRA := Lib.hid hra
  have HRS := Lib.hid hrs
  clear hra hrs
  go_wp2_with fail
  refine (join_rd (X := fun _ => False) HJ.out HRA.out HRS.out (Rd.mk HAy.out) (fun _ h => False.elim h)).mono ?_
  rintro e w8 ⟨x8, rfl, h8', hE8⟩
  clear s0 s1 s2 s3
  obtain ⟨c0, c1, c2, c3, rfl, hA9⟩ := h8'
  obtain ⟨ky51, pay51, lay51, may51, pby51, lby51, mby51, pcy51, lcy51, mcy51, rfl, rfl, rfl, rfl⟩ := hA9.form
  have hEn := (hE8).alloc (.cells #[(.int .i64 ky51), (.slice pay51 lay51 may51), (.slice pby51 lby51 mby51), (.slice pcy51 lcy51 mcy51)] 26)
  have hBn := box_new w8 (.int .i64 ky51) (.slice pay51 lay51 may51) (.slice pby51 lby51 mby51) (.slice pcy51 lcy51 mcy51)
  have hAn := hA9.ext ((Ext.refl _).alloc (.cells #[(.int .i64 ky51), (.slice pay51 lay51 may51), (.slice pby51 lby51 mby51), (.slice pcy51 lcy51 mcy51)] 26))
  clear hA9 hE8
  have HF := Lib.hid (And.intro hEn (And.intro hBn hAn))
  clear hEn hBn hAn
  go_upto_region 17 with (fail)
  obtain ⟨hEn, hBn, hAn⟩ := HF.out
  clear HF
  generalize hbz : w8.heap.size = by51 at *
  clear hbz
  generalize w8.alloc (.cells #[(.int .i64 ky51), (.slice pay51 lay51 may51), (.slice pby51 lby51 mby51), (.slice pcy51 lcy51 mcy51)] 26) = wk52 at *
  replace HBx := Lib.hid (HBx.out.ext hEn)
  replace HAx := Lib.hid (HAx.out.ext hEn)
  replace HBy := Lib.hid (HBy.out.ext hEn)
  replace HAy := Lib.hid (HAy.out.ext hEn)
  replace HE := Lib.hid (HE.out.trans (hEn))
  have HBj := Lib.hid hBn
  have HAj := Lib.hid hAn
  clear hEn hBn hAn
  obtain ⟨s0, s1, s2, s3⟩ := HBx.out.cell
  obtain ⟨t0, t1, t2, t3⟩ := HBj.out.cell
  have hat := HAT.out
  have heq : ((a : Int) == IntKind.i64.wrap ((nx.length : Int) + (ix.length : Int))) = true := by simpa using hat
  rw [← hat] at heq
  have hwt : IntKind.i64.wrap ((nx.length : Int) + (ix.length : Int)) = (a : Int) := hat.symm
  clear hat HAT heq
  go_wp2_with fail
  refine (same_true (Rd.mk HAj.out) (Rd.mk HAx.out) rfl rfl).mono ?_
  rintro e wg ⟨rfl, hEg⟩
  clear s0 s1 s2 s3 t0 t1 t2 t3
  go_wp2_with fail
  refine (cellawake_any _).mono ?_
  rintro e wl ⟨rfl, hEl⟩
  go_wp2_with fail
  go_ret
  exact ⟨rfl, (HE.out.trans hEg).trans hEl⟩

end Go.Proofs.Ytmpjnjhiklaofaa
