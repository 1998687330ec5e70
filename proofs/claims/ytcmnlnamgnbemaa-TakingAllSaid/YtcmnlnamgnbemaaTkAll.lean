/-
  THE WALK of law19.TakingAll: it returns true, and turns nothing that was there. (Printed by gen_tkall.py.)
-/
import Derived.Test.YtcmnlnamgnbemaaLives
import Derived.Test.YtcmnlnamgnbemaaTkAllLaw
namespace Go.Proofs.Ytcmnlnamgnbemaa
set_option linter.unusedSimpArgs false
set_option linter.unusedVariables false
open Go.RowKit

theorem rdix_made {X : Nat → Prop} (w : World) (n : Nat) (hn : n ≤ 17592186044416) (hX : ∀ b, X b → b < w.heap.size) : RdIX X (w.alloc (.cells (madeCells #[.int .i64 0] n) 3)) (List.replicate n 0) (.slice (some ⟨w.heap.size, 0, none⟩) n n) :=
  ⟨some ⟨w.heap.size, 0, none⟩, n, by simp, ⟨by simp, by omega, by simpa using hn⟩, ((RowI.made n).ints (fun x hx => by rw [(List.mem_replicate.1 hx).2]; omega)).mono fun b hb hlt => ⟨⟨hlt, fun hx => by have := hX b hx; omega⟩, rfl⟩⟩

set_option maxRecDepth 100000 in
set_option maxHeartbeats 8000000 in
theorem tkall_any (G : Nat → Prop) (y : Arr) (d0 d1 d2 d3 : Value) (m nn : Int) (w : World) (hy : ArrAt G w y d0 d1 d2 d3) (hm64 : -9223372036854775808 ≤ m ∧ m ≤ 9223372036854775807) (hn64 : -9223372036854775808 ≤ nn ∧ nn ≤ 9223372036854775807) :
    Calls Try.prog 13 #[.agg #[d0, d1, d2, d3], .int .i64 m, .int .i64 nn] w fun e w' => e = .returned (.bool true) ∧ Ext w w' := by
  obtain ⟨ky, sy, ny, iy⟩ := y
  have hy' := hy
  unfold ArrAt at hy'
  obtain ⟨rfl, hky, ⟨r1, n1, rfl, ⟨p1, p1', p1''⟩, j1⟩, ⟨r2, n2, rfl, ⟨p2, p2', p2''⟩, j2⟩, ⟨r3, n3, rfl, ⟨p3, p3', p3''⟩, j3⟩⟩ := hy'
  have HAy := Lib.hid hy
  have HJ1 := Lib.hid j1
  clear hy j1 j2 j3
  go_enter Try.func13, Try.ntmps13
  go_upto_region 1 with (fail)
  have hE0 : Ext w (w.alloc (.cells #[.int .i64 ky, .slice r1 sy.length n1, .slice r2 ny.length n2, .slice r3 iy.length n3] 26)) := (Ext.refl _).alloc _
  have hBy := box_new w (.int .i64 ky) (.slice r1 sy.length n1) (.slice r2 ny.length n2) (.slice r3 iy.length n3)
  generalize w.alloc (.cells #[.int .i64 ky, .slice r1 sy.length n1, .slice r2 ny.length n2, .slice r3 iy.length n3] 26) = w1 at hE0 hBy ⊢
  have HBy := Lib.hid hBy
  have HE := Lib.hid hE0
  replace HAy := Lib.hid (HAy.out.ext hE0)
  replace HJ1 := Lib.hid (HJ1.out.ext hE0)
  clear hBy hE0
  go_cut [52] (fun bv wq => ∃ b : Bool, bv = .bool b ∧ Ext w1 wq ∧ (b = false → Hid (rightV (.mk ky sy ny iy) = 0) ∧ 0 ≤ m ∧ m ≤ nn ∧ nn ≤ 1000))
  case first =>
    have HW := Lib.hid (Ext.refl w1)
    obtain ⟨t0, t1, t2, t3⟩ := HBy.out.cell
    go_wp2_with fail
    refine (small_any _ _ _ _ _ _ w1 HAy.out).mono ?_
    rintro e w2 ⟨b1, rfl, hE1⟩
    clear t0 t1 t2 t3
    replace HBy := Lib.hid (HBy.out.ext hE1)
    replace HAy := Lib.hid (HAy.out.ext hE1)
    replace HJ1 := Lib.hid (HJ1.out.ext hE1)
    replace HE := Lib.hid (HE.out.trans (hE1))
    replace HW := Lib.hid (HW.out.trans hE1)
    clear hE1
    cases b1 with
    | false =>
      go_wp2_with fail
      go_meet
      case rel => exact ⟨_, rfl, HW.out, fun h => by cases h⟩
    | true =>
    obtain ⟨t0, t1, t2, t3⟩ := HBy.out.cell
    go_wp2_with fail
    refine (r3right_any _ _ _ _ _ _ w2 HAy.out).mono ?_
    rintro e w3 ⟨rfl, hE1⟩
    rw [rright_eq]
    clear t0 t1 t2 t3
    replace HBy := Lib.hid (HBy.out.ext hE1)
    replace HAy := Lib.hid (HAy.out.ext hE1)
    replace HJ1 := Lib.hid (HJ1.out.ext hE1)
    replace HE := Lib.hid (HE.out.trans (hE1))
    replace HW := Lib.hid (HW.out.trans hE1)
    clear hE1
    generalize hrv : rightV (.mk ky sy ny iy) = rv
    by_cases hr0 : rv = 0
    case neg =>
      have hr1 : (rv != 0) = true := by simpa using hr0
      clear hrv hr0
      go_wp2_with fail
      go_meet
      case rel => exact ⟨_, rfl, HW.out, fun h => by cases h⟩
    subst hr0
    have hr1 : ((0 : Int) != 0) = false := rfl
    have HRV := Lib.hid hrv
    obtain ⟨a1, a2, a3, a4, a5⟩ := right_parts hrv
    have HRG := Lib.hid a3
    clear hrv a1 a3 a4 a5
    by_cases hm0 : m < 0
    case pos =>
      go_wp2_with fail
      go_meet
      case rel => exact ⟨_, rfl, HW.out, fun h => by cases h⟩
    by_cases hnm : nn < m
    case pos =>
      go_wp2_with fail
      go_meet
      case rel => exact ⟨_, rfl, HW.out, fun h => by cases h⟩
    by_cases hn1 : 1000 < nn
    case pos =>
      go_wp2_with fail
      go_meet
      case rel => exact ⟨_, rfl, HW.out, fun h => by cases h⟩
    have HPR := Lib.hid (fun (h : 1 ≤ sy.length) => r2product_any _ r1 n1 1 sy w3 HJ1.out (by unfold lenMax; omega) h (rightGo_drop sy 1 HRG.out))
    obtain ⟨t0, t1, t2, t3⟩ := HBy.out.cell
    by_cases hs0 : sy.length = 0
    case pos =>
      have hs1 : ¬ (0 : Int) < sy.length := by omega
      clear HPR hs0
      go_wp2_with fail
      go_meet
      case rel => exact ⟨_, rfl, HW.out, fun _ => ⟨HRV.out, by omega, by omega, by omega⟩⟩
    have hs1 : (0 : Int) < sy.length := by omega
    have hs2 : 1 ≤ sy.length := by omega
    clear hs0
    go_wp2_with fail
    refine (HPR.out (by omega)).mono ?_
    rintro e w4 ⟨rfl, rfl⟩
    generalize prodA 1 (sy.drop 1) = pr
    clear HPR
    go_wp2_with fail
    go_meet
    case rel => exact ⟨_, rfl, HW.out, fun _ => ⟨HRV.out, by omega, by omega, by omega⟩⟩
  case rest =>
    obtain ⟨b, rfl, hE1, hcf⟩ := hcut
    replace HBy := Lib.hid (HBy.out.ext hE1)
    replace HAy := Lib.hid (HAy.out.ext hE1)
    replace HJ1 := Lib.hid (HJ1.out.ext hE1)
    replace HE := Lib.hid (HE.out.trans (hE1))
    cases b with
    | true =>
      go_wp2_with fail
      refine (lives_any _).mono ?_
      rintro e wl ⟨rfl, hEl⟩
      go_wp2_with fail
      go_ret
      exact ⟨rfl, HE.out.trans hEl⟩
    | false =>
    obtain ⟨hrv, hm0, hmn, hn1⟩ := hcf rfl
    clear hcf
    have HRV := Lib.hid hrv
    obtain ⟨a1, a2, a3, a4, a5⟩ := right_parts hrv
    clear hrv a1 a3 a4 a5 hE1
    have HSL := Lib.hid (show SlOk sy.length n1 from ⟨p1, p1', p1''⟩)
    have HTA := Lib.hid (take_all HRV.out)
    have HTB := Lib.hid (drop_none HRV.out)
    have htw := take_twice (m := m) (nn := nn) (by omega) (by omega) (by omega) HRV.out
    obtain ⟨⟨cT, gE⟩, hTC⟩ : ∃ r, takeV (vecV [nn]) (.mk ky sy ny iy) = r := ⟨_, rfl⟩
    obtain ⟨⟨dT, hE_⟩, hTD⟩ : ∃ r, takeV (vecV [m]) cT = r := ⟨_, rfl⟩
    obtain ⟨⟨kT, iE⟩, hTK⟩ : ∃ r, takeV (vecV [m]) (.mk ky sy ny iy) = r := ⟨_, rfl⟩
    rw [hTC, hTK] at htw
    dsimp only at htw
    rw [hTD] at htw
    have HTC := Lib.hid hTC
    have HTD := Lib.hid hTD
    have HTK := Lib.hid hTK
    have HTW := Lib.hid htw
    clear htw hTC hTD hTK
    go_wp2_with fail
    refine wp_region_y2 [MProp.is (.pointer (some ⟨w.heap.size, 1, none⟩)), MProp.rdi (sy), MProp.rd (vecV sy), MProp.is (.agg #[(.int .i64 ky), (.slice r1 sy.length n1), (.slice r2 ny.length n2), (.slice r3 iy.length n3)]), MProp.rd2 (.mk ky sy ny iy) 0, MProp.rd2 (.mk ky sy ny iy) 0, MProp.rd (.mk ky sy ny iy), MProp.is (.int .i64 0), MProp.box] [0, 1, 2, 3, 4, 5, 6, 7, 8] [7] [55, 56, 57, 58, 59, 54, 60, 61, 7] 9 10 (by kernel_rfl) (by kernel_rfl) (by kernel_rfl) rfl rfl ?_ ?_ ?_
    · refine mem_cons_m ?_ (mem_cons_m ?_ (mem_cons_m ?_ (mem_cons_m ?_ (mem_cons_m ?_ (mem_cons_m ?_ (mem_cons_m ?_ (mem_cons_m ?_ (mem_cons_m ?_ (mem_nil_m)))))))))
      · refine ⟨_, 55, rfl, by kernel_rfl, ?_⟩
        intro u w9 X hE hX hd K hK
        clear hd
        simp only [overlay, List.setIfInBounds_toArray, List.set] at hK ⊢
        go_wp2_with fail
        exact hK _ _ X (Ext.refl _) kept_m hX rfl
      · refine ⟨_, 56, rfl, by kernel_rfl, ?_⟩
        intro u w9 X hE hX hd K hK
        have d0 : u 55 = .pointer (some ⟨w.heap.size, 1, none⟩) := hd 0 (by kernel_rfl)
        clear hd
        simp only [overlay, List.setIfInBounds_toArray, List.set, d0] at hK ⊢
        have e9 : Ext wc w9 := (Ext.refl wc).drew.trans hE
        obtain ⟨s0, s1, s2, s3⟩ := (HBy.out.ext e9).cell
        go_wp2_with fail
        exact hK _ _ X (Ext.refl _) kept_m hX (RdIX.old HJ1.out HSL.out e9 hX.lo)
      · refine ⟨_, 57, rfl, by kernel_rfl, ?_⟩
        intro u w9 X hE hX hd K hK
        have d1 : RdIX X w9 (sy) (u 56) := hd 1 (by kernel_rfl)
        clear hd
        simp only [overlay, List.setIfInBounds_toArray, List.set] at hK ⊢
        have e9 : Ext wc w9 := (Ext.refl wc).drew.trans hE
        go_wp2_with fail
        refine (ints_rd d1 hX.hi).mono ?_
        rintro e w8 ⟨x8, rfl, hx8, hE8⟩
        go_wp2_with fail
        exact hK _ _ X hE8 kept_m (hX.ext hE8) hx8
      · refine ⟨_, 58, rfl, by kernel_rfl, ?_⟩
        intro u w9 X hE hX hd K hK
        clear hd
        simp only [overlay, List.setIfInBounds_toArray, List.set] at hK ⊢
        have e9 : Ext wc w9 := (Ext.refl wc).drew.trans hE
        obtain ⟨s0, s1, s2, s3⟩ := (HBy.out.ext e9).cell
        go_wp2_with fail
        exact hK _ _ X (Ext.refl _) kept_m hX rfl
      · refine ⟨_, 59, rfl, by kernel_rfl, ?_⟩
        intro u w9 X hE hX hd K hK
        have d2 : RdX X w9 (vecV sy) (u 57) := hd 2 (by kernel_rfl)
        have d3 : u 58 = .agg #[(.int .i64 ky), (.slice r1 sy.length n1), (.slice r2 ny.length n2), (.slice r3 iy.length n3)] := hd 3 (by kernel_rfl)
        clear hd
        simp only [overlay, List.setIfInBounds_toArray, List.set, d3] at hK ⊢
        have e9 : Ext wc w9 := (Ext.refl wc).drew.trans hE
        go_wp2_with fail
        refine (take_at HTA.out d2 (RdX.old HAy.out e9 hX.lo) hX.hi).mono ?_
        rintro e w8 ⟨x8, rfl, hx8, hE8⟩
        go_wp2_with fail
        exact hK _ _ X hE8 kept_m (hX.ext hE8) ⟨x8, rfl, hx8⟩
      · refine ⟨_, 54, rfl, by kernel_rfl, ?_⟩
        intro u w9 X hE hX hd K hK
        have d4 : ∃ x, u 59 = .tuple #[x, .int .i64 0] ∧ RdX X w9 (.mk ky sy ny iy) x := hd 4 (by kernel_rfl)
        clear hd
        simp only [overlay, List.setIfInBounds_toArray, List.set] at hK ⊢
        obtain ⟨x8, hv8, hx8⟩ := d4
        simp only [hv8] at hK ⊢
        go_wp2_with fail
        exact hK _ _ X (Ext.refl _) kept_m hX ⟨x8, rfl, hx8⟩
      · refine ⟨_, 60, rfl, by kernel_rfl, ?_⟩
        intro u w9 X hE hX hd K hK
        have d5 : ∃ x, u 54 = .tuple #[x, .int .i64 0] ∧ RdX X w9 (.mk ky sy ny iy) x := hd 5 (by kernel_rfl)
        clear hd
        simp only [overlay, List.setIfInBounds_toArray, List.set] at hK ⊢
        obtain ⟨x8, hv8, hx8⟩ := d5
        simp only [hv8] at hK ⊢
        go_wp2_with fail
        exact hK _ _ X (Ext.refl _) kept_m hX hx8
      · refine ⟨_, 61, rfl, by kernel_rfl, ?_⟩
        intro u w9 X hE hX hd K hK
        have d5 : ∃ x, u 54 = .tuple #[x, .int .i64 0] ∧ RdX X w9 (.mk ky sy ny iy) x := hd 5 (by kernel_rfl)
        clear hd
        simp only [overlay, List.setIfInBounds_toArray, List.set] at hK ⊢
        obtain ⟨x8, hv8, hx8⟩ := d5
        simp only [hv8] at hK ⊢
        go_wp2_with fail
        exact hK _ _ X (Ext.refl _) kept_m hX rfl
      · refine ⟨_, 7, rfl, by kernel_rfl, ?_⟩
        intro u w9 X hE hX hd K hK
        clear hd
        simp only [overlay, List.setIfInBounds_toArray, List.set] at hK ⊢
        go_wp2_with fail
        exact hK _ _ (fun b => X b ∨ b = w9.heap.size) ((Ext.refl _).alloc _) added_m (hX.add hE _) ⟨_, rfl, box_new _ _ _ _ _, .inr rfl⟩
    · refine mem_cons_m ?_ (mem_nil_m)
      · refine ⟨_, rfl, ?_⟩
        intro u w9 X hd
        have d5 : ∃ x, u 54 = .tuple #[x, .int .i64 0] ∧ RdX X w9 (.mk ky sy ny iy) x := hd 5 (by kernel_rfl)
        clear hd
        obtain ⟨x8, hv8, hx8⟩ := d5
        simp only [overlay, List.setIfInBounds_toArray, List.set, hv8]
        exact ⟨.int .i64 0, .inl ⟨by kernel_rfl, fun w8 => by go_simp⟩, rfl⟩
    intro u w9 X hE hX hd
    have d0 : u 55 = .pointer (some ⟨w.heap.size, 1, none⟩) := hd 0 (by decide)
    have d1 : RdIX X w9 (sy) (u 56) := hd 1 (by decide)
    have d2 : RdX X w9 (vecV sy) (u 57) := hd 2 (by decide)
    have d3 : u 58 = .agg #[(.int .i64 ky), (.slice r1 sy.length n1), (.slice r2 ny.length n2), (.slice r3 iy.length n3)] := hd 3 (by decide)
    have d4 : ∃ x, u 59 = .tuple #[x, .int .i64 0] ∧ RdX X w9 (.mk ky sy ny iy) x := hd 4 (by decide)
    have d5 : ∃ x, u 54 = .tuple #[x, .int .i64 0] ∧ RdX X w9 (.mk ky sy ny iy) x := hd 5 (by decide)
    have d6 : RdX X w9 (.mk ky sy ny iy) (u 60) := hd 6 (by decide)
    have d7 : u 61 = .int .i64 0 := hd 7 (by decide)
    have d8 : ∃ b, u 7 = .pointer (some ⟨b, 0, none⟩) ∧ Box4 w9 b (.int .i64 0) (.slice none 0 0) (.slice none 0 0) (.slice none 0 0) ∧ X b := hd 8 (by decide)
    clear hd
    simp only [overlay, List.setIfInBounds_toArray, List.set, d0, d3, d7]
    have e9 : Ext wc w9 := (Ext.refl wc).drew.trans hE
    obtain ⟨boz1, hvb, hbox, hxb⟩ := d8
    obtain ⟨c0, c1, c2, c3, hva, hA9⟩ := d6
    obtain ⟨kz1, paz1, laz1, maz1, pbz1, lbz1, mbz1, pcz1, lcz1, mcz1, rfl, rfl, rfl, rfl⟩ := hA9.form
    have hbo := hX boz1 hxb
    simp only [hvb, hva]
    obtain ⟨s0, s1, s2, s3⟩ := hbox.cell
    have f0 := hbox.free 0
    have f1 := hbox.free 1
    have f2 := hbox.free 2
    have f3 := hbox.free 3
    obtain ⟨gg1, gg2, gg3⟩ := hbox.put4 e9 hbo.1 (.int .i64 kz1) (.slice paz1 laz1 maz1) (.slice pbz1 lbz1 mbz1) (.slice pcz1 lcz1 mcz1)
    have hAn := ArrAt.mono (G := fun _ => True) (fun b hb _ => ⟨trivial, gg3 b (fun e => hb.2 (by rw [e]; exact hxb))⟩) _ _ _ _ _ hA9
    have HGG := Lib.hid (And.intro gg1 (And.intro gg2 hAn))
    clear gg1 gg2 gg3 hAn hA9 hbo hxb hbox
    clear d0 d1 d2 d3 d4 d5 d7
    clear hX hE
    generalize u 56 = t56z1 at *
    generalize u 57 = t57z1 at *
    generalize u 59 = t59z1 at *
    generalize u 54 = t54z1 at *
    clear hvb hva
    clear u
    go_wp2_with fail
    refine OnlyN.mk ?_
    obtain ⟨gg1, gg2, hAn⟩ := HGG.out
    clear HGG s0 s1 s2 s3 f0 f1 f2 f3 e9
    generalize ((((w9.setCell ⟨boz1, 0, none⟩ (.int .i64 kz1)).setCell ⟨boz1, 1, none⟩ (.slice paz1 laz1 maz1)).setCell ⟨boz1, 2, none⟩ (.slice pbz1 lbz1 mbz1)).setCell ⟨boz1, 3, none⟩ (.slice pcz1 lcz1 mcz1)) = wk2 at *
    replace HBy := Lib.hid (HBy.out.ext gg1)
    replace HAy := Lib.hid (HAy.out.ext gg1)
    replace HJ1 := Lib.hid (HJ1.out.ext gg1)
    replace HE := Lib.hid (HE.out.trans (gg1))
    have HBa := Lib.hid gg2
    have HAa := Lib.hid hAn
    clear gg1 gg2 hAn
    go_wp2_with fail
    refine wp_region_y2 [MProp.is (.pointer (some ⟨w.heap.size, 1, none⟩)), MProp.is (.slice r1 sy.length n1), MProp.is (.int .i64 (sy.length : Int)), MProp.rdi (List.replicate sy.length 0), MProp.rd (vecV (List.replicate sy.length 0)), MProp.is (.agg #[(.int .i64 ky), (.slice r1 sy.length n1), (.slice r2 ny.length n2), (.slice r3 iy.length n3)]), MProp.rd2 (.mk ky sy ny iy) 0, MProp.rd2 (.mk ky sy ny iy) 0, MProp.rd (.mk ky sy ny iy), MProp.is (.int .i64 0), MProp.box] [0, 1, 2, 3, 4, 5, 6, 7, 8, 9, 10] [9] [63, 64, 65, 66, 67, 68, 69, 62, 70, 71, 9] 11 12 (by kernel_rfl) (by kernel_rfl) (by kernel_rfl) rfl rfl ?_ ?_ ?_
    · refine mem_cons_m ?_ (mem_cons_m ?_ (mem_cons_m ?_ (mem_cons_m ?_ (mem_cons_m ?_ (mem_cons_m ?_ (mem_cons_m ?_ (mem_cons_m ?_ (mem_cons_m ?_ (mem_cons_m ?_ (mem_cons_m ?_ (mem_nil_m)))))))))))
      · refine ⟨_, 63, rfl, by kernel_rfl, ?_⟩
        intro u w9 X hE hX hd K hK
        clear hd
        simp only [overlay, List.setIfInBounds_toArray, List.set] at hK ⊢
        go_wp2_with fail
        exact hK _ _ X (Ext.refl _) kept_m hX rfl
      · refine ⟨_, 64, rfl, by kernel_rfl, ?_⟩
        intro u w9 X hE hX hd K hK
        have d0 : u 63 = .pointer (some ⟨w.heap.size, 1, none⟩) := hd 0 (by kernel_rfl)
        clear hd
        simp only [overlay, List.setIfInBounds_toArray, List.set, d0] at hK ⊢
        have e9 : Ext wk2 w9 := (Ext.refl wk2).drew.trans hE
        obtain ⟨s0, s1, s2, s3⟩ := (HBy.out.ext e9).cell
        go_wp2_with fail
        exact hK _ _ X (Ext.refl _) kept_m hX rfl
      · refine ⟨_, 65, rfl, by kernel_rfl, ?_⟩
        intro u w9 X hE hX hd K hK
        have d1 : u 64 = .slice r1 sy.length n1 := hd 1 (by kernel_rfl)
        clear hd
        simp only [overlay, List.setIfInBounds_toArray, List.set, d1] at hK ⊢
        go_wp2_with fail
        exact hK _ _ X (Ext.refl _) kept_m hX rfl
      · refine ⟨_, 66, rfl, by kernel_rfl, ?_⟩
        intro u w9 X hE hX hd K hK
        have d2 : u 65 = .int .i64 (sy.length : Int) := hd 2 (by kernel_rfl)
        clear hd
        simp only [overlay, List.setIfInBounds_toArray, List.set, d2] at hK ⊢
        have hmk := run_make_ints sy.length (by omega)
        go_wp2_with fail
        exact hK _ _ X ((Ext.refl _).alloc _) kept_m (hX.ext ((Ext.refl _).alloc _)) (rdix_made w9 sy.length (by omega) hX.hi)
      · refine ⟨_, 67, rfl, by kernel_rfl, ?_⟩
        intro u w9 X hE hX hd K hK
        have d3 : RdIX X w9 (List.replicate sy.length 0) (u 66) := hd 3 (by kernel_rfl)
        clear hd
        simp only [overlay, List.setIfInBounds_toArray, List.set] at hK ⊢
        have e9 : Ext wk2 w9 := (Ext.refl wk2).drew.trans hE
        go_wp2_with fail
        refine (ints_rd d3 hX.hi).mono ?_
        rintro e w8 ⟨x8, rfl, hx8, hE8⟩
        go_wp2_with fail
        exact hK _ _ X hE8 kept_m (hX.ext hE8) hx8
      · refine ⟨_, 68, rfl, by kernel_rfl, ?_⟩
        intro u w9 X hE hX hd K hK
        clear hd
        simp only [overlay, List.setIfInBounds_toArray, List.set] at hK ⊢
        have e9 : Ext wk2 w9 := (Ext.refl wk2).drew.trans hE
        obtain ⟨s0, s1, s2, s3⟩ := (HBy.out.ext e9).cell
        go_wp2_with fail
        exact hK _ _ X (Ext.refl _) kept_m hX rfl
      · refine ⟨_, 69, rfl, by kernel_rfl, ?_⟩
        intro u w9 X hE hX hd K hK
        have d4 : RdX X w9 (vecV (List.replicate sy.length 0)) (u 67) := hd 4 (by kernel_rfl)
        have d5 : u 68 = .agg #[(.int .i64 ky), (.slice r1 sy.length n1), (.slice r2 ny.length n2), (.slice r3 iy.length n3)] := hd 5 (by kernel_rfl)
        clear hd
        simp only [overlay, List.setIfInBounds_toArray, List.set, d5] at hK ⊢
        have e9 : Ext wk2 w9 := (Ext.refl wk2).drew.trans hE
        go_wp2_with fail
        refine (drop_at HTB.out d4 (RdX.old HAy.out e9 hX.lo) hX.hi).mono ?_
        rintro e w8 ⟨x8, rfl, hx8, hE8⟩
        go_wp2_with fail
        exact hK _ _ X hE8 kept_m (hX.ext hE8) ⟨x8, rfl, hx8⟩
      · refine ⟨_, 62, rfl, by kernel_rfl, ?_⟩
        intro u w9 X hE hX hd K hK
        have d6 : ∃ x, u 69 = .tuple #[x, .int .i64 0] ∧ RdX X w9 (.mk ky sy ny iy) x := hd 6 (by kernel_rfl)
        clear hd
        simp only [overlay, List.setIfInBounds_toArray, List.set] at hK ⊢
        obtain ⟨x8, hv8, hx8⟩ := d6
        simp only [hv8] at hK ⊢
        go_wp2_with fail
        exact hK _ _ X (Ext.refl _) kept_m hX ⟨x8, rfl, hx8⟩
      · refine ⟨_, 70, rfl, by kernel_rfl, ?_⟩
        intro u w9 X hE hX hd K hK
        have d7 : ∃ x, u 62 = .tuple #[x, .int .i64 0] ∧ RdX X w9 (.mk ky sy ny iy) x := hd 7 (by kernel_rfl)
        clear hd
        simp only [overlay, List.setIfInBounds_toArray, List.set] at hK ⊢
        obtain ⟨x8, hv8, hx8⟩ := d7
        simp only [hv8] at hK ⊢
        go_wp2_with fail
        exact hK _ _ X (Ext.refl _) kept_m hX hx8
      · refine ⟨_, 71, rfl, by kernel_rfl, ?_⟩
        intro u w9 X hE hX hd K hK
        have d7 : ∃ x, u 62 = .tuple #[x, .int .i64 0] ∧ RdX X w9 (.mk ky sy ny iy) x := hd 7 (by kernel_rfl)
        clear hd
        simp only [overlay, List.setIfInBounds_toArray, List.set] at hK ⊢
        obtain ⟨x8, hv8, hx8⟩ := d7
        simp only [hv8] at hK ⊢
        go_wp2_with fail
        exact hK _ _ X (Ext.refl _) kept_m hX rfl
      · refine ⟨_, 9, rfl, by kernel_rfl, ?_⟩
        intro u w9 X hE hX hd K hK
        clear hd
        simp only [overlay, List.setIfInBounds_toArray, List.set] at hK ⊢
        go_wp2_with fail
        exact hK _ _ (fun b => X b ∨ b = w9.heap.size) ((Ext.refl _).alloc _) added_m (hX.add hE _) ⟨_, rfl, box_new _ _ _ _ _, .inr rfl⟩
    · refine mem_cons_m ?_ (mem_nil_m)
      · refine ⟨_, rfl, ?_⟩
        intro u w9 X hd
        have d7 : ∃ x, u 62 = .tuple #[x, .int .i64 0] ∧ RdX X w9 (.mk ky sy ny iy) x := hd 7 (by kernel_rfl)
        clear hd
        obtain ⟨x8, hv8, hx8⟩ := d7
        simp only [overlay, List.setIfInBounds_toArray, List.set, hv8]
        exact ⟨.int .i64 0, .inl ⟨by kernel_rfl, fun w8 => by go_simp⟩, rfl⟩
    intro u w9 X hE hX hd
    have d0 : u 63 = .pointer (some ⟨w.heap.size, 1, none⟩) := hd 0 (by decide)
    have d1 : u 64 = .slice r1 sy.length n1 := hd 1 (by decide)
    have d2 : u 65 = .int .i64 (sy.length : Int) := hd 2 (by decide)
    have d3 : RdIX X w9 (List.replicate sy.length 0) (u 66) := hd 3 (by decide)
    have d4 : RdX X w9 (vecV (List.replicate sy.length 0)) (u 67) := hd 4 (by decide)
    have d5 : u 68 = .agg #[(.int .i64 ky), (.slice r1 sy.length n1), (.slice r2 ny.length n2), (.slice r3 iy.length n3)] := hd 5 (by decide)
    have d6 : ∃ x, u 69 = .tuple #[x, .int .i64 0] ∧ RdX X w9 (.mk ky sy ny iy) x := hd 6 (by decide)
    have d7 : ∃ x, u 62 = .tuple #[x, .int .i64 0] ∧ RdX X w9 (.mk ky sy ny iy) x := hd 7 (by decide)
    have d8 : RdX X w9 (.mk ky sy ny iy) (u 70) := hd 8 (by decide)
    have d9 : u 71 = .int .i64 0 := hd 9 (by decide)
    have d10 : ∃ b, u 9 = .pointer (some ⟨b, 0, none⟩) ∧ Box4 w9 b (.int .i64 0) (.slice none 0 0) (.slice none 0 0) (.slice none 0 0) ∧ X b := hd 10 (by decide)
    clear hd
    simp only [overlay, List.setIfInBounds_toArray, List.set, d0, d1, d2, d5, d9]
    have e9 : Ext wk2 w9 := (Ext.refl wk2).drew.trans hE
    obtain ⟨boz3, hvb, hbox, hxb⟩ := d10
    obtain ⟨c0, c1, c2, c3, hva, hA9⟩ := d8
    obtain ⟨kz3, paz3, laz3, maz3, pbz3, lbz3, mbz3, pcz3, lcz3, mcz3, rfl, rfl, rfl, rfl⟩ := hA9.form
    have hbo := hX boz3 hxb
    simp only [hvb, hva]
    obtain ⟨s0, s1, s2, s3⟩ := hbox.cell
    have f0 := hbox.free 0
    have f1 := hbox.free 1
    have f2 := hbox.free 2
    have f3 := hbox.free 3
    obtain ⟨gg1, gg2, gg3⟩ := hbox.put4 e9 hbo.1 (.int .i64 kz3) (.slice paz3 laz3 maz3) (.slice pbz3 lbz3 mbz3) (.slice pcz3 lcz3 mcz3)
    have hAn := ArrAt.mono (G := fun _ => True) (fun b hb _ => ⟨trivial, gg3 b (fun e => hb.2 (by rw [e]; exact hxb))⟩) _ _ _ _ _ hA9
    have HGG := Lib.hid (And.intro gg1 (And.intro gg2 hAn))
    clear gg1 gg2 gg3 hAn hA9 hbo hxb hbox
    clear d0 d1 d2 d3 d4 d5 d6 d7 d9
    clear hX hE
    generalize u 66 = t66z3 at *
    generalize u 67 = t67z3 at *
    generalize u 69 = t69z3 at *
    generalize u 62 = t62z3 at *
    clear hvb hva
    clear u
    go_wp2_with fail
    refine OnlyN.mk ?_
    obtain ⟨gg1, gg2, hAn⟩ := HGG.out
    clear HGG s0 s1 s2 s3 f0 f1 f2 f3 e9
    generalize ((((w9.setCell ⟨boz3, 0, none⟩ (.int .i64 kz3)).setCell ⟨boz3, 1, none⟩ (.slice paz3 laz3 maz3)).setCell ⟨boz3, 2, none⟩ (.slice pbz3 lbz3 mbz3)).setCell ⟨boz3, 3, none⟩ (.slice pcz3 lcz3 mcz3)) = wk4 at *
    replace HBy := Lib.hid (HBy.out.ext gg1)
    replace HAy := Lib.hid (HAy.out.ext gg1)
    replace HBa := Lib.hid (HBa.out.ext gg1)
    replace HAa := Lib.hid (HAa.out.ext gg1)
    replace HJ1 := Lib.hid (HJ1.out.ext gg1)
    replace HE := Lib.hid (HE.out.trans (gg1))
    have HBb := Lib.hid gg2
    have HAb := Lib.hid hAn
    clear gg1 gg2 hAn
    go_wp2_with fail
    refine wp_region_y2 [MProp.is (.int .i64 nn), MProp.rdi [nn], MProp.rd (vecV [nn]), MProp.is (.agg #[(.int .i64 ky), (.slice r1 sy.length n1), (.slice r2 ny.length n2), (.slice r3 iy.length n3)]), MProp.rd2 (cT) gE, MProp.rd2 (cT) gE, MProp.rd (cT), MProp.is (.int .i64 gE), MProp.box] [0, 1, 2, 3, 4, 5, 6, 7, 8] [7] [73, 74, 75, 76, 77, 72, 78, 79, 11] 9 10 (by kernel_rfl) (by kernel_rfl) (by kernel_rfl) rfl rfl ?_ ?_ ?_
    · refine mem_cons_m ?_ (mem_cons_m ?_ (mem_cons_m ?_ (mem_cons_m ?_ (mem_cons_m ?_ (mem_cons_m ?_ (mem_cons_m ?_ (mem_cons_m ?_ (mem_cons_m ?_ (mem_nil_m)))))))))
      · refine ⟨_, 73, rfl, by kernel_rfl, ?_⟩
        intro u w9 X hE hX hd K hK
        clear hd
        simp only [overlay, List.setIfInBounds_toArray, List.set] at hK ⊢
        go_wp2_with fail
        exact hK _ _ X (Ext.refl _) kept_m hX rfl
      · refine ⟨_, 74, rfl, by kernel_rfl, ?_⟩
        intro u w9 X hE hX hd K hK
        have d0 : u 73 = .int .i64 nn := hd 0 (by kernel_rfl)
        clear hd
        simp only [overlay, List.setIfInBounds_toArray, List.set, d0] at hK ⊢
        go_wp2_with fail
        exact hK _ _ X ((Ext.refl _).alloc _) kept_m (hX.ext ((Ext.refl _).alloc _)) (rdix_lit w9 [nn] (by simp) (fun x hx => by rw [List.mem_singleton] at hx; omega) hX.hi)
      · refine ⟨_, 75, rfl, by kernel_rfl, ?_⟩
        intro u w9 X hE hX hd K hK
        have d1 : RdIX X w9 [nn] (u 74) := hd 1 (by kernel_rfl)
        clear hd
        simp only [overlay, List.setIfInBounds_toArray, List.set] at hK ⊢
        have e9 : Ext wk4 w9 := (Ext.refl wk4).drew.trans hE
        go_wp2_with fail
        refine (ints_rd d1 hX.hi).mono ?_
        rintro e w8 ⟨x8, rfl, hx8, hE8⟩
        go_wp2_with fail
        exact hK _ _ X hE8 kept_m (hX.ext hE8) hx8
      · refine ⟨_, 76, rfl, by kernel_rfl, ?_⟩
        intro u w9 X hE hX hd K hK
        clear hd
        simp only [overlay, List.setIfInBounds_toArray, List.set] at hK ⊢
        have e9 : Ext wk4 w9 := (Ext.refl wk4).drew.trans hE
        obtain ⟨s0, s1, s2, s3⟩ := (HBy.out.ext e9).cell
        go_wp2_with fail
        exact hK _ _ X (Ext.refl _) kept_m hX rfl
      · refine ⟨_, 77, rfl, by kernel_rfl, ?_⟩
        intro u w9 X hE hX hd K hK
        have d2 : RdX X w9 (vecV [nn]) (u 75) := hd 2 (by kernel_rfl)
        have d3 : u 76 = .agg #[(.int .i64 ky), (.slice r1 sy.length n1), (.slice r2 ny.length n2), (.slice r3 iy.length n3)] := hd 3 (by kernel_rfl)
        clear hd
        simp only [overlay, List.setIfInBounds_toArray, List.set, d3] at hK ⊢
        have e9 : Ext wk4 w9 := (Ext.refl wk4).drew.trans hE
        go_wp2_with fail
        refine (take_at HTC.out d2 (RdX.old HAy.out e9 hX.lo) hX.hi).mono ?_
        rintro e w8 ⟨x8, rfl, hx8, hE8⟩
        go_wp2_with fail
        exact hK _ _ X hE8 kept_m (hX.ext hE8) ⟨x8, rfl, hx8⟩
      · refine ⟨_, 72, rfl, by kernel_rfl, ?_⟩
        intro u w9 X hE hX hd K hK
        have d4 : ∃ x, u 77 = .tuple #[x, .int .i64 gE] ∧ RdX X w9 (cT) x := hd 4 (by kernel_rfl)
        clear hd
        simp only [overlay, List.setIfInBounds_toArray, List.set] at hK ⊢
        obtain ⟨x8, hv8, hx8⟩ := d4
        simp only [hv8] at hK ⊢
        go_wp2_with fail
        exact hK _ _ X (Ext.refl _) kept_m hX ⟨x8, rfl, hx8⟩
      · refine ⟨_, 78, rfl, by kernel_rfl, ?_⟩
        intro u w9 X hE hX hd K hK
        have d5 : ∃ x, u 72 = .tuple #[x, .int .i64 gE] ∧ RdX X w9 (cT) x := hd 5 (by kernel_rfl)
        clear hd
        simp only [overlay, List.setIfInBounds_toArray, List.set] at hK ⊢
        obtain ⟨x8, hv8, hx8⟩ := d5
        simp only [hv8] at hK ⊢
        go_wp2_with fail
        exact hK _ _ X (Ext.refl _) kept_m hX hx8
      · refine ⟨_, 79, rfl, by kernel_rfl, ?_⟩
        intro u w9 X hE hX hd K hK
        have d5 : ∃ x, u 72 = .tuple #[x, .int .i64 gE] ∧ RdX X w9 (cT) x := hd 5 (by kernel_rfl)
        clear hd
        simp only [overlay, List.setIfInBounds_toArray, List.set] at hK ⊢
        obtain ⟨x8, hv8, hx8⟩ := d5
        simp only [hv8] at hK ⊢
        go_wp2_with fail
        exact hK _ _ X (Ext.refl _) kept_m hX rfl
      · refine ⟨_, 11, rfl, by kernel_rfl, ?_⟩
        intro u w9 X hE hX hd K hK
        clear hd
        simp only [overlay, List.setIfInBounds_toArray, List.set] at hK ⊢
        go_wp2_with fail
        exact hK _ _ (fun b => X b ∨ b = w9.heap.size) ((Ext.refl _).alloc _) added_m (hX.add hE _) ⟨_, rfl, box_new _ _ _ _ _, .inr rfl⟩
    · refine mem_cons_m ?_ (mem_nil_m)
      · refine ⟨_, rfl, ?_⟩
        intro u w9 X hd
        have d5 : ∃ x, u 72 = .tuple #[x, .int .i64 gE] ∧ RdX X w9 (cT) x := hd 5 (by kernel_rfl)
        clear hd
        obtain ⟨x8, hv8, hx8⟩ := d5
        simp only [overlay, List.setIfInBounds_toArray, List.set, hv8]
        exact ⟨.int .i64 gE, .inl ⟨by kernel_rfl, fun w8 => by go_simp⟩, rfl⟩
    intro u w9 X hE hX hd
    have d0 : u 73 = .int .i64 nn := hd 0 (by decide)
    have d1 : RdIX X w9 [nn] (u 74) := hd 1 (by decide)
    have d2 : RdX X w9 (vecV [nn]) (u 75) := hd 2 (by decide)
    have d3 : u 76 = .agg #[(.int .i64 ky), (.slice r1 sy.length n1), (.slice r2 ny.length n2), (.slice r3 iy.length n3)] := hd 3 (by decide)
    have d4 : ∃ x, u 77 = .tuple #[x, .int .i64 gE] ∧ RdX X w9 (cT) x := hd 4 (by decide)
    have d5 : ∃ x, u 72 = .tuple #[x, .int .i64 gE] ∧ RdX X w9 (cT) x := hd 5 (by decide)
    have d6 : RdX X w9 (cT) (u 78) := hd 6 (by decide)
    have d7 : u 79 = .int .i64 gE := hd 7 (by decide)
    have d8 : ∃ b, u 11 = .pointer (some ⟨b, 0, none⟩) ∧ Box4 w9 b (.int .i64 0) (.slice none 0 0) (.slice none 0 0) (.slice none 0 0) ∧ X b := hd 8 (by decide)
    clear hd
    simp only [overlay, List.setIfInBounds_toArray, List.set, d0, d3, d7]
    have e9 : Ext wk4 w9 := (Ext.refl wk4).drew.trans hE
    obtain ⟨boz5, hvb, hbox, hxb⟩ := d8
    obtain ⟨c0, c1, c2, c3, hva, hA9⟩ := d6
    obtain ⟨kz5, paz5, laz5, maz5, pbz5, lbz5, mbz5, pcz5, lcz5, mcz5, rfl, rfl, rfl, rfl⟩ := hA9.form
    have hbo := hX boz5 hxb
    simp only [hvb, hva]
    obtain ⟨s0, s1, s2, s3⟩ := hbox.cell
    have f0 := hbox.free 0
    have f1 := hbox.free 1
    have f2 := hbox.free 2
    have f3 := hbox.free 3
    obtain ⟨gg1, gg2, gg3⟩ := hbox.put4 e9 hbo.1 (.int .i64 kz5) (.slice paz5 laz5 maz5) (.slice pbz5 lbz5 mbz5) (.slice pcz5 lcz5 mcz5)
    have hAn := ArrAt.mono (G := fun _ => True) (fun b hb _ => ⟨trivial, gg3 b (fun e => hb.2 (by rw [e]; exact hxb))⟩) _ _ _ _ _ hA9
    have HGG := Lib.hid (And.intro gg1 (And.intro gg2 hAn))
    clear gg1 gg2 gg3 hAn hA9 hbo hxb hbox
    clear d0 d1 d2 d3 d4 d5 d7
    clear hX hE
    generalize u 74 = t74z5 at *
    generalize u 75 = t75z5 at *
    generalize u 77 = t77z5 at *
    generalize u 72 = t72z5 at *
    clear hvb hva
    clear u
    go_wp2_with fail
    refine OnlyN.mk ?_
    obtain ⟨gg1, gg2, hAn⟩ := HGG.out
    clear HGG s0 s1 s2 s3 f0 f1 f2 f3 e9
    generalize ((((w9.setCell ⟨boz5, 0, none⟩ (.int .i64 kz5)).setCell ⟨boz5, 1, none⟩ (.slice paz5 laz5 maz5)).setCell ⟨boz5, 2, none⟩ (.slice pbz5 lbz5 mbz5)).setCell ⟨boz5, 3, none⟩ (.slice pcz5 lcz5 mcz5)) = wk6 at *
    replace HBy := Lib.hid (HBy.out.ext gg1)
    replace HAy := Lib.hid (HAy.out.ext gg1)
    replace HBa := Lib.hid (HBa.out.ext gg1)
    replace HAa := Lib.hid (HAa.out.ext gg1)
    replace HBb := Lib.hid (HBb.out.ext gg1)
    replace HAb := Lib.hid (HAb.out.ext gg1)
    replace HJ1 := Lib.hid (HJ1.out.ext gg1)
    replace HE := Lib.hid (HE.out.trans (gg1))
    have HBc := Lib.hid gg2
    have HAc := Lib.hid hAn
    clear gg1 gg2 hAn
    go_wp2_with fail
    refine wp_region_y2 [MProp.is (.int .i64 m), MProp.rdi [m], MProp.rd (vecV [m]), MProp.is (.agg #[(.int .i64 kz5), (.slice paz5 laz5 maz5), (.slice pbz5 lbz5 mbz5), (.slice pcz5 lcz5 mcz5)]), MProp.rd2 (dT) hE_, MProp.rd2 (dT) hE_, MProp.rd (dT), MProp.is (.int .i64 hE_), MProp.box] [0, 1, 2, 3, 4, 5, 6, 7, 8] [7] [81, 82, 83, 84, 85, 80, 86, 87, 13] 9 10 (by kernel_rfl) (by kernel_rfl) (by kernel_rfl) rfl rfl ?_ ?_ ?_
    · refine mem_cons_m ?_ (mem_cons_m ?_ (mem_cons_m ?_ (mem_cons_m ?_ (mem_cons_m ?_ (mem_cons_m ?_ (mem_cons_m ?_ (mem_cons_m ?_ (mem_cons_m ?_ (mem_nil_m)))))))))
      · refine ⟨_, 81, rfl, by kernel_rfl, ?_⟩
        intro u w9 X hE hX hd K hK
        clear hd
        simp only [overlay, List.setIfInBounds_toArray, List.set] at hK ⊢
        go_wp2_with fail
        exact hK _ _ X (Ext.refl _) kept_m hX rfl
      · refine ⟨_, 82, rfl, by kernel_rfl, ?_⟩
        intro u w9 X hE hX hd K hK
        have d0 : u 81 = .int .i64 m := hd 0 (by kernel_rfl)
        clear hd
        simp only [overlay, List.setIfInBounds_toArray, List.set, d0] at hK ⊢
        go_wp2_with fail
        exact hK _ _ X ((Ext.refl _).alloc _) kept_m (hX.ext ((Ext.refl _).alloc _)) (rdix_lit w9 [m] (by simp) (fun x hx => by rw [List.mem_singleton] at hx; omega) hX.hi)
      · refine ⟨_, 83, rfl, by kernel_rfl, ?_⟩
        intro u w9 X hE hX hd K hK
        have d1 : RdIX X w9 [m] (u 82) := hd 1 (by kernel_rfl)
        clear hd
        simp only [overlay, List.setIfInBounds_toArray, List.set] at hK ⊢
        have e9 : Ext wk6 w9 := (Ext.refl wk6).drew.trans hE
        go_wp2_with fail
        refine (ints_rd d1 hX.hi).mono ?_
        rintro e w8 ⟨x8, rfl, hx8, hE8⟩
        go_wp2_with fail
        exact hK _ _ X hE8 kept_m (hX.ext hE8) hx8
      · refine ⟨_, 84, rfl, by kernel_rfl, ?_⟩
        intro u w9 X hE hX hd K hK
        clear hd
        simp only [overlay, List.setIfInBounds_toArray, List.set] at hK ⊢
        have e9 : Ext wk6 w9 := (Ext.refl wk6).drew.trans hE
        obtain ⟨s0, s1, s2, s3⟩ := (HBc.out.ext e9).cell
        go_wp2_with fail
        exact hK _ _ X (Ext.refl _) kept_m hX rfl
      · refine ⟨_, 85, rfl, by kernel_rfl, ?_⟩
        intro u w9 X hE hX hd K hK
        have d2 : RdX X w9 (vecV [m]) (u 83) := hd 2 (by kernel_rfl)
        have d3 : u 84 = .agg #[(.int .i64 kz5), (.slice paz5 laz5 maz5), (.slice pbz5 lbz5 mbz5), (.slice pcz5 lcz5 mcz5)] := hd 3 (by kernel_rfl)
        clear hd
        simp only [overlay, List.setIfInBounds_toArray, List.set, d3] at hK ⊢
        have e9 : Ext wk6 w9 := (Ext.refl wk6).drew.trans hE
        go_wp2_with fail
        refine (take_at HTD.out d2 (RdX.old HAc.out e9 hX.lo) hX.hi).mono ?_
        rintro e w8 ⟨x8, rfl, hx8, hE8⟩
        go_wp2_with fail
        exact hK _ _ X hE8 kept_m (hX.ext hE8) ⟨x8, rfl, hx8⟩
      · refine ⟨_, 80, rfl, by kernel_rfl, ?_⟩
        intro u w9 X hE hX hd K hK
        have d4 : ∃ x, u 85 = .tuple #[x, .int .i64 hE_] ∧ RdX X w9 (dT) x := hd 4 (by kernel_rfl)
        clear hd
        simp only [overlay, List.setIfInBounds_toArray, List.set] at hK ⊢
        obtain ⟨x8, hv8, hx8⟩ := d4
        simp only [hv8] at hK ⊢
        go_wp2_with fail
        exact hK _ _ X (Ext.refl _) kept_m hX ⟨x8, rfl, hx8⟩
      · refine ⟨_, 86, rfl, by kernel_rfl, ?_⟩
        intro u w9 X hE hX hd K hK
        have d5 : ∃ x, u 80 = .tuple #[x, .int .i64 hE_] ∧ RdX X w9 (dT) x := hd 5 (by kernel_rfl)
        clear hd
        simp only [overlay, List.setIfInBounds_toArray, List.set] at hK ⊢
        obtain ⟨x8, hv8, hx8⟩ := d5
        simp only [hv8] at hK ⊢
        go_wp2_with fail
        exact hK _ _ X (Ext.refl _) kept_m hX hx8
      · refine ⟨_, 87, rfl, by kernel_rfl, ?_⟩
        intro u w9 X hE hX hd K hK
        have d5 : ∃ x, u 80 = .tuple #[x, .int .i64 hE_] ∧ RdX X w9 (dT) x := hd 5 (by kernel_rfl)
        clear hd
        simp only [overlay, List.setIfInBounds_toArray, List.set] at hK ⊢
        obtain ⟨x8, hv8, hx8⟩ := d5
        simp only [hv8] at hK ⊢
        go_wp2_with fail
        exact hK _ _ X (Ext.refl _) kept_m hX rfl
      · refine ⟨_, 13, rfl, by kernel_rfl, ?_⟩
        intro u w9 X hE hX hd K hK
        clear hd
        simp only [overlay, List.setIfInBounds_toArray, List.set] at hK ⊢
        go_wp2_with fail
        exact hK _ _ (fun b => X b ∨ b = w9.heap.size) ((Ext.refl _).alloc _) added_m (hX.add hE _) ⟨_, rfl, box_new _ _ _ _ _, .inr rfl⟩
    · refine mem_cons_m ?_ (mem_nil_m)
      · refine ⟨_, rfl, ?_⟩
        intro u w9 X hd
        have d5 : ∃ x, u 80 = .tuple #[x, .int .i64 hE_] ∧ RdX X w9 (dT) x := hd 5 (by kernel_rfl)
        clear hd
        obtain ⟨x8, hv8, hx8⟩ := d5
        simp only [overlay, List.setIfInBounds_toArray, List.set, hv8]
        exact ⟨.int .i64 hE_, .inl ⟨by kernel_rfl, fun w8 => by go_simp⟩, rfl⟩
    intro u w9 X hE hX hd
    have d0 : u 81 = .int .i64 m := hd 0 (by decide)
    have d1 : RdIX X w9 [m] (u 82) := hd 1 (by decide)
    have d2 : RdX X w9 (vecV [m]) (u 83) := hd 2 (by decide)
    have d3 : u 84 = .agg #[(.int .i64 kz5), (.slice paz5 laz5 maz5), (.slice pbz5 lbz5 mbz5), (.slice pcz5 lcz5 mcz5)] := hd 3 (by decide)
    have d4 : ∃ x, u 85 = .tuple #[x, .int .i64 hE_] ∧ RdX X w9 (dT) x := hd 4 (by decide)
    have d5 : ∃ x, u 80 = .tuple #[x, .int .i64 hE_] ∧ RdX X w9 (dT) x := hd 5 (by decide)
    have d6 : RdX X w9 (dT) (u 86) := hd 6 (by decide)
    have d7 : u 87 = .int .i64 hE_ := hd 7 (by decide)
    have d8 : ∃ b, u 13 = .pointer (some ⟨b, 0, none⟩) ∧ Box4 w9 b (.int .i64 0) (.slice none 0 0) (.slice none 0 0) (.slice none 0 0) ∧ X b := hd 8 (by decide)
    clear hd
    simp only [overlay, List.setIfInBounds_toArray, List.set, d0, d3, d7]
    have e9 : Ext wk6 w9 := (Ext.refl wk6).drew.trans hE
    obtain ⟨boz7, hvb, hbox, hxb⟩ := d8
    obtain ⟨c0, c1, c2, c3, hva, hA9⟩ := d6
    obtain ⟨kz7, paz7, laz7, maz7, pbz7, lbz7, mbz7, pcz7, lcz7, mcz7, rfl, rfl, rfl, rfl⟩ := hA9.form
    have hbo := hX boz7 hxb
    simp only [hvb, hva]
    obtain ⟨s0, s1, s2, s3⟩ := hbox.cell
    have f0 := hbox.free 0
    have f1 := hbox.free 1
    have f2 := hbox.free 2
    have f3 := hbox.free 3
    obtain ⟨gg1, gg2, gg3⟩ := hbox.put4 e9 hbo.1 (.int .i64 kz7) (.slice paz7 laz7 maz7) (.slice pbz7 lbz7 mbz7) (.slice pcz7 lcz7 mcz7)
    have hAn := ArrAt.mono (G := fun _ => True) (fun b hb _ => ⟨trivial, gg3 b (fun e => hb.2 (by rw [e]; exact hxb))⟩) _ _ _ _ _ hA9
    have HGG := Lib.hid (And.intro gg1 (And.intro gg2 hAn))
    clear gg1 gg2 gg3 hAn hA9 hbo hxb hbox
    clear d0 d1 d2 d3 d4 d5 d7
    clear hX hE
    generalize u 82 = t82z7 at *
    generalize u 83 = t83z7 at *
    generalize u 85 = t85z7 at *
    generalize u 80 = t80z7 at *
    clear hvb hva
    clear u
    go_wp2_with fail
    refine OnlyN.mk ?_
    obtain ⟨gg1, gg2, hAn⟩ := HGG.out
    clear HGG s0 s1 s2 s3 f0 f1 f2 f3 e9
    generalize ((((w9.setCell ⟨boz7, 0, none⟩ (.int .i64 kz7)).setCell ⟨boz7, 1, none⟩ (.slice paz7 laz7 maz7)).setCell ⟨boz7, 2, none⟩ (.slice pbz7 lbz7 mbz7)).setCell ⟨boz7, 3, none⟩ (.slice pcz7 lcz7 mcz7)) = wk8 at *
    replace HBy := Lib.hid (HBy.out.ext gg1)
    replace HAy := Lib.hid (HAy.out.ext gg1)
    replace HBa := Lib.hid (HBa.out.ext gg1)
    replace HAa := Lib.hid (HAa.out.ext gg1)
    replace HBb := Lib.hid (HBb.out.ext gg1)
    replace HAb := Lib.hid (HAb.out.ext gg1)
    replace HBc := Lib.hid (HBc.out.ext gg1)
    replace HAc := Lib.hid (HAc.out.ext gg1)
    replace HJ1 := Lib.hid (HJ1.out.ext gg1)
    replace HE := Lib.hid (HE.out.trans (gg1))
    have HBd := Lib.hid gg2
    have HAd := Lib.hid hAn
    clear gg1 gg2 hAn
    go_wp2_with fail
    refine wp_region_y2 [MProp.is (.int .i64 m), MProp.rdi [m], MProp.rd (vecV [m]), MProp.is (.agg #[(.int .i64 ky), (.slice r1 sy.length n1), (.slice r2 ny.length n2), (.slice r3 iy.length n3)]), MProp.rd2 (kT) iE, MProp.rd2 (kT) iE, MProp.rd (kT), MProp.is (.int .i64 iE), MProp.box] [0, 1, 2, 3, 4, 5, 6, 7, 8] [7] [89, 90, 91, 92, 93, 88, 94, 95, 15] 9 10 (by kernel_rfl) (by kernel_rfl) (by kernel_rfl) rfl rfl ?_ ?_ ?_
    · refine mem_cons_m ?_ (mem_cons_m ?_ (mem_cons_m ?_ (mem_cons_m ?_ (mem_cons_m ?_ (mem_cons_m ?_ (mem_cons_m ?_ (mem_cons_m ?_ (mem_cons_m ?_ (mem_nil_m)))))))))
      · refine ⟨_, 89, rfl, by kernel_rfl, ?_⟩
        intro u w9 X hE hX hd K hK
        clear hd
        simp only [overlay, List.setIfInBounds_toArray, List.set] at hK ⊢
        go_wp2_with fail
        exact hK _ _ X (Ext.refl _) kept_m hX rfl
      · refine ⟨_, 90, rfl, by kernel_rfl, ?_⟩
        intro u w9 X hE hX hd K hK
        have d0 : u 89 = .int .i64 m := hd 0 (by kernel_rfl)
        clear hd
        simp only [overlay, List.setIfInBounds_toArray, List.set, d0] at hK ⊢
        go_wp2_with fail
        exact hK _ _ X ((Ext.refl _).alloc _) kept_m (hX.ext ((Ext.refl _).alloc _)) (rdix_lit w9 [m] (by simp) (fun x hx => by rw [List.mem_singleton] at hx; omega) hX.hi)
      · refine ⟨_, 91, rfl, by kernel_rfl, ?_⟩
        intro u w9 X hE hX hd K hK
        have d1 : RdIX X w9 [m] (u 90) := hd 1 (by kernel_rfl)
        clear hd
        simp only [overlay, List.setIfInBounds_toArray, List.set] at hK ⊢
        have e9 : Ext wk8 w9 := (Ext.refl wk8).drew.trans hE
        go_wp2_with fail
        refine (ints_rd d1 hX.hi).mono ?_
        rintro e w8 ⟨x8, rfl, hx8, hE8⟩
        go_wp2_with fail
        exact hK _ _ X hE8 kept_m (hX.ext hE8) hx8
      · refine ⟨_, 92, rfl, by kernel_rfl, ?_⟩
        intro u w9 X hE hX hd K hK
        clear hd
        simp only [overlay, List.setIfInBounds_toArray, List.set] at hK ⊢
        have e9 : Ext wk8 w9 := (Ext.refl wk8).drew.trans hE
        obtain ⟨s0, s1, s2, s3⟩ := (HBy.out.ext e9).cell
        go_wp2_with fail
        exact hK _ _ X (Ext.refl _) kept_m hX rfl
      · refine ⟨_, 93, rfl, by kernel_rfl, ?_⟩
        intro u w9 X hE hX hd K hK
        have d2 : RdX X w9 (vecV [m]) (u 91) := hd 2 (by kernel_rfl)
        have d3 : u 92 = .agg #[(.int .i64 ky), (.slice r1 sy.length n1), (.slice r2 ny.length n2), (.slice r3 iy.length n3)] := hd 3 (by kernel_rfl)
        clear hd
        simp only [overlay, List.setIfInBounds_toArray, List.set, d3] at hK ⊢
        have e9 : Ext wk8 w9 := (Ext.refl wk8).drew.trans hE
        go_wp2_with fail
        refine (take_at HTK.out d2 (RdX.old HAy.out e9 hX.lo) hX.hi).mono ?_
        rintro e w8 ⟨x8, rfl, hx8, hE8⟩
        go_wp2_with fail
        exact hK _ _ X hE8 kept_m (hX.ext hE8) ⟨x8, rfl, hx8⟩
      · refine ⟨_, 88, rfl, by kernel_rfl, ?_⟩
        intro u w9 X hE hX hd K hK
        have d4 : ∃ x, u 93 = .tuple #[x, .int .i64 iE] ∧ RdX X w9 (kT) x := hd 4 (by kernel_rfl)
        clear hd
        simp only [overlay, List.setIfInBounds_toArray, List.set] at hK ⊢
        obtain ⟨x8, hv8, hx8⟩ := d4
        simp only [hv8] at hK ⊢
        go_wp2_with fail
        exact hK _ _ X (Ext.refl _) kept_m hX ⟨x8, rfl, hx8⟩
      · refine ⟨_, 94, rfl, by kernel_rfl, ?_⟩
        intro u w9 X hE hX hd K hK
        have d5 : ∃ x, u 88 = .tuple #[x, .int .i64 iE] ∧ RdX X w9 (kT) x := hd 5 (by kernel_rfl)
        clear hd
        simp only [overlay, List.setIfInBounds_toArray, List.set] at hK ⊢
        obtain ⟨x8, hv8, hx8⟩ := d5
        simp only [hv8] at hK ⊢
        go_wp2_with fail
        exact hK _ _ X (Ext.refl _) kept_m hX hx8
      · refine ⟨_, 95, rfl, by kernel_rfl, ?_⟩
        intro u w9 X hE hX hd K hK
        have d5 : ∃ x, u 88 = .tuple #[x, .int .i64 iE] ∧ RdX X w9 (kT) x := hd 5 (by kernel_rfl)
        clear hd
        simp only [overlay, List.setIfInBounds_toArray, List.set] at hK ⊢
        obtain ⟨x8, hv8, hx8⟩ := d5
        simp only [hv8] at hK ⊢
        go_wp2_with fail
        exact hK _ _ X (Ext.refl _) kept_m hX rfl
      · refine ⟨_, 15, rfl, by kernel_rfl, ?_⟩
        intro u w9 X hE hX hd K hK
        clear hd
        simp only [overlay, List.setIfInBounds_toArray, List.set] at hK ⊢
        go_wp2_with fail
        exact hK _ _ (fun b => X b ∨ b = w9.heap.size) ((Ext.refl _).alloc _) added_m (hX.add hE _) ⟨_, rfl, box_new _ _ _ _ _, .inr rfl⟩
    · refine mem_cons_m ?_ (mem_nil_m)
      · refine ⟨_, rfl, ?_⟩
        intro u w9 X hd
        have d5 : ∃ x, u 88 = .tuple #[x, .int .i64 iE] ∧ RdX X w9 (kT) x := hd 5 (by kernel_rfl)
        clear hd
        obtain ⟨x8, hv8, hx8⟩ := d5
        simp only [overlay, List.setIfInBounds_toArray, List.set, hv8]
        exact ⟨.int .i64 iE, .inl ⟨by kernel_rfl, fun w8 => by go_simp⟩, rfl⟩
    intro u w9 X hE hX hd
    have d0 : u 89 = .int .i64 m := hd 0 (by decide)
    have d1 : RdIX X w9 [m] (u 90) := hd 1 (by decide)
    have d2 : RdX X w9 (vecV [m]) (u 91) := hd 2 (by decide)
    have d3 : u 92 = .agg #[(.int .i64 ky), (.slice r1 sy.length n1), (.slice r2 ny.length n2), (.slice r3 iy.length n3)] := hd 3 (by decide)
    have d4 : ∃ x, u 93 = .tuple #[x, .int .i64 iE] ∧ RdX X w9 (kT) x := hd 4 (by decide)
    have d5 : ∃ x, u 88 = .tuple #[x, .int .i64 iE] ∧ RdX X w9 (kT) x := hd 5 (by decide)
    have d6 : RdX X w9 (kT) (u 94) := hd 6 (by decide)
    have d7 : u 95 = .int .i64 iE := hd 7 (by decide)
    have d8 : ∃ b, u 15 = .pointer (some ⟨b, 0, none⟩) ∧ Box4 w9 b (.int .i64 0) (.slice none 0 0) (.slice none 0 0) (.slice none 0 0) ∧ X b := hd 8 (by decide)
    clear hd
    simp only [overlay, List.setIfInBounds_toArray, List.set, d0, d3, d7]
    have e9 : Ext wk8 w9 := (Ext.refl wk8).drew.trans hE
    obtain ⟨boz9, hvb, hbox, hxb⟩ := d8
    obtain ⟨c0, c1, c2, c3, hva, hA9⟩ := d6
    obtain ⟨kz9, paz9, laz9, maz9, pbz9, lbz9, mbz9, pcz9, lcz9, mcz9, rfl, rfl, rfl, rfl⟩ := hA9.form
    have hbo := hX boz9 hxb
    simp only [hvb, hva]
    obtain ⟨s0, s1, s2, s3⟩ := hbox.cell
    have f0 := hbox.free 0
    have f1 := hbox.free 1
    have f2 := hbox.free 2
    have f3 := hbox.free 3
    obtain ⟨gg1, gg2, gg3⟩ := hbox.put4 e9 hbo.1 (.int .i64 kz9) (.slice paz9 laz9 maz9) (.slice pbz9 lbz9 mbz9) (.slice pcz9 lcz9 mcz9)
    have hAn := ArrAt.mono (G := fun _ => True) (fun b hb _ => ⟨trivial, gg3 b (fun e => hb.2 (by rw [e]; exact hxb))⟩) _ _ _ _ _ hA9
    have HGG := Lib.hid (And.intro gg1 (And.intro gg2 hAn))
    clear gg1 gg2 gg3 hAn hA9 hbo hxb hbox
    clear d0 d1 d2 d3 d4 d5 d7
    clear hX hE
    generalize u 90 = t90z9 at *
    generalize u 91 = t91z9 at *
    generalize u 93 = t93z9 at *
    generalize u 88 = t88z9 at *
    clear hvb hva
    clear u
    go_wp2_with fail
    refine OnlyN.mk ?_
    obtain ⟨gg1, gg2, hAn⟩ := HGG.out
    clear HGG s0 s1 s2 s3 f0 f1 f2 f3 e9
    generalize ((((w9.setCell ⟨boz9, 0, none⟩ (.int .i64 kz9)).setCell ⟨boz9, 1, none⟩ (.slice paz9 laz9 maz9)).setCell ⟨boz9, 2, none⟩ (.slice pbz9 lbz9 mbz9)).setCell ⟨boz9, 3, none⟩ (.slice pcz9 lcz9 mcz9)) = wk10 at *
    replace HBy := Lib.hid (HBy.out.ext gg1)
    replace HAy := Lib.hid (HAy.out.ext gg1)
    replace HBa := Lib.hid (HBa.out.ext gg1)
    replace HAa := Lib.hid (HAa.out.ext gg1)
    replace HBb := Lib.hid (HBb.out.ext gg1)
    replace HAb := Lib.hid (HAb.out.ext gg1)
    replace HBc := Lib.hid (HBc.out.ext gg1)
    replace HAc := Lib.hid (HAc.out.ext gg1)
    replace HBd := Lib.hid (HBd.out.ext gg1)
    replace HAd := Lib.hid (HAd.out.ext gg1)
    replace HJ1 := Lib.hid (HJ1.out.ext gg1)
    replace HE := Lib.hid (HE.out.trans (gg1))
    have HBk := Lib.hid gg2
    have HAk := Lib.hid hAn
    clear gg1 gg2 hAn
    rcases HTW.out with h21 | ⟨h0, d, hd1, hd2⟩
    · subst h21
      go_wp2_with fail
      refine (lives_any _).mono ?_
      rintro e wl ⟨rfl, hEl⟩
      go_wp2_with fail
      go_ret
      exact ⟨rfl, HE.out.trans hEl⟩
    · have e1 : (dT, hE_) = (d, (0 : Int)) := hd1
      have e2 : (kT, iE) = (d, (0 : Int)) := hd2
      cases e1
      cases e2
      subst h0
      have hg : ((0 : Int) == 21) = false := rfl
      clear HRV HSL HTA HTB HTC HTD HTK HTW hd1 hd2 HJ1 hm0 hmn hn1 hm64 hn64 hky a2
      obtain ⟨s00, s01, s02, s03⟩ := HBa.out.cell
      obtain ⟨s10, s11, s12, s13⟩ := HBy.out.cell
      go_wp2_with fail
      refine (same_tr (Rd.mk HAa.out) (Rd.mk HAy.out) rfl rfl).mono ?_
      rintro e wq11 ⟨rfl, hE8⟩
      clear s00 s01 s02 s03 s10 s11 s12 s13
      replace HBy := Lib.hid (HBy.out.ext hE8)
      replace HAy := Lib.hid (HAy.out.ext hE8)
      replace HBa := Lib.hid (HBa.out.ext hE8)
      replace HAa := Lib.hid (HAa.out.ext hE8)
      replace HBb := Lib.hid (HBb.out.ext hE8)
      replace HAb := Lib.hid (HAb.out.ext hE8)
      replace HBc := Lib.hid (HBc.out.ext hE8)
      replace HAc := Lib.hid (HAc.out.ext hE8)
      replace HBd := Lib.hid (HBd.out.ext hE8)
      replace HAd := Lib.hid (HAd.out.ext hE8)
      replace HBk := Lib.hid (HBk.out.ext hE8)
      replace HAk := Lib.hid (HAk.out.ext hE8)
      replace HE := Lib.hid (HE.out.trans (hE8))
      clear hE8
      obtain ⟨s00, s01, s02, s03⟩ := HBb.out.cell
      obtain ⟨s10, s11, s12, s13⟩ := HBy.out.cell
      go_wp2_with fail
      refine (same_tr (Rd.mk HAb.out) (Rd.mk HAy.out) rfl rfl).mono ?_
      rintro e wq12 ⟨rfl, hE8⟩
      clear s00 s01 s02 s03 s10 s11 s12 s13
      replace HBy := Lib.hid (HBy.out.ext hE8)
      replace HAy := Lib.hid (HAy.out.ext hE8)
      replace HBa := Lib.hid (HBa.out.ext hE8)
      replace HAa := Lib.hid (HAa.out.ext hE8)
      replace HBb := Lib.hid (HBb.out.ext hE8)
      replace HAb := Lib.hid (HAb.out.ext hE8)
      replace HBc := Lib.hid (HBc.out.ext hE8)
      replace HAc := Lib.hid (HAc.out.ext hE8)
      replace HBd := Lib.hid (HBd.out.ext hE8)
      replace HAd := Lib.hid (HAd.out.ext hE8)
      replace HBk := Lib.hid (HBk.out.ext hE8)
      replace HAk := Lib.hid (HAk.out.ext hE8)
      replace HE := Lib.hid (HE.out.trans (hE8))
      clear hE8
      obtain ⟨s00, s01, s02, s03⟩ := HBd.out.cell
      obtain ⟨s10, s11, s12, s13⟩ := HBk.out.cell
      go_wp2_with fail
      refine (same_tr (Rd.mk HAd.out) (Rd.mk HAk.out) rfl rfl).mono ?_
      rintro e wq13 ⟨rfl, hE8⟩
      clear s00 s01 s02 s03 s10 s11 s12 s13
      replace HBy := Lib.hid (HBy.out.ext hE8)
      replace HAy := Lib.hid (HAy.out.ext hE8)
      replace HBa := Lib.hid (HBa.out.ext hE8)
      replace HAa := Lib.hid (HAa.out.ext hE8)
      replace HBb := Lib.hid (HBb.out.ext hE8)
      replace HAb := Lib.hid (HAb.out.ext hE8)
      replace HBc := Lib.hid (HBc.out.ext hE8)
      replace HAc := Lib.hid (HAc.out.ext hE8)
      replace HBd := Lib.hid (HBd.out.ext hE8)
      replace HAd := Lib.hid (HAd.out.ext hE8)
      replace HBk := Lib.hid (HBk.out.ext hE8)
      replace HAk := Lib.hid (HAk.out.ext hE8)
      replace HE := Lib.hid (HE.out.trans (hE8))
      clear hE8
      go_wp2_with fail
      refine (lives_any _).mono ?_
      rintro e wl ⟨rfl, hEl⟩
      go_wp2_with fail
      go_ret
      exact ⟨rfl, HE.out.trans hEl⟩
end Go.Proofs.Ytcmnlnamgnbemaa
