/-
  THE WALK of law39.agree: of frames and the reference's frames that hold the same. (Printed by gen_agr.py.)
-/
import Derived.Test.YtgkemmdghmklfaaRefM
import Derived.Test.YtgkemmdghmklfaaRefN
import Derived.Test.YtgkemmdghmklfaaFArrs
import Derived.Test.YtgkemmdghmklfaaFDepth
namespace Go.Proofs.Ytgkemmdghmklfaa
set_option linter.unusedSimpArgs false
set_option linter.unusedVariables false
open Go.RowKit

theorem RSix.ext {w w' : World} {b : Nat} {c0 c1 c2 c3 c4 c5 : Value} (h : RSix w b c0 c1 c2 c3 c4 c5) (e : Ext w w') : RSix w' b c0 c1 c2 c3 c4 c5 := by
  unfold RSix at *
  rw [e.block (Array.getElem?_eq_some_iff.1 h).1]; exact h
set_option maxRecDepth 100000 in
set_option maxHeartbeats 8000000 in
theorem agree_any (R : Nat → Prop) (p : Option Addr) (l : List (Nat × List Slot)) (hl1 : 1 ≤ l.length) (hl : l.length ≤ 40) (v : Value) (w : World) (hF : IsFr (fun _ => True) w p l) (hR : FrsR R w v (l.map Prod.snd)) :
    Calls Try.prog 33 #[.pointer p, v] w fun e w' => e = .returned (.bool true) ∧ Ext w w' := by
  obtain ⟨pw, cw, rfl⟩ := hR.form
  obtain ⟨n, hn⟩ : ∃ n, (l.map Prod.snd).length = n := ⟨_, rfl⟩
  have hnl : n = l.length := by rw [← hn]; simp
  rw [hn] at hR ⊢
  have hn40 : n ≤ 40 := by omega
  have hn1 : 1 ≤ n := by omega
  have HN := Lib.hid hnl
  have HF := Lib.hid hF
  have HR := Lib.hid hR
  have HL := Lib.hid hl
  clear hn hnl hF hR hl hl1
  go_enter Try.func33, Try.ntmps33
  go_wp2_with fail
  go_loopw [5] (fun d wr => ∃ k : Int, -1 ≤ k ∧ k ≤ n + 1 ∧ d = .int .i64 k ∧ Ext w wr) (fun d _ => ((n : Int) + 1 - intOf d).toNat)
  case atStart => exact ⟨-1, by omega, by omega, rfl, Ext.refl _⟩
  case round =>
  obtain ⟨d, hd1, hd2, rfl, hE0⟩ := hrel
  obtain ⟨wo, rfl⟩ : ∃ wo : World, wo = wr := ⟨_, rfl⟩
  by_cases hlt : d ≤ n
  · go_wp2_with fail
    go_loopw [6] (fun s wr => ∃ k : Int, -1 ≤ k ∧ k ≤ 22 ∧ s = .int .i64 k ∧ Ext w wr) (fun s _ => (22 - intOf s).toNat)
    case atStart => exact ⟨-1, by omega, by omega, rfl, hE0⟩
    case round =>
    obtain ⟨s, hs1, hs2, rfl, hE⟩ := hrel
    clear hE0
    by_cases hlts : s ≤ 21
    · have hg := get_anyV (fun _ => True) p l (by have := HL.out; omega) d s wr (HF.out.ext hE) (by omega) (by omega)
      rw [getV_gt, getF_gt] at hg
      have HG := Lib.hid hg
      have HE1 := Lib.hid hE
      have HRG := Lib.hid (fun w' (e : Ext wr w') => rget_any R (l.map Prod.snd) d s (.slice pw n cw) w' (HR.out.ext (hE.trans e)) (by omega) (by omega))
      clear hg hE
      generalize gtV (l.map Prod.snd) d s = x at HG HRG
      go_wp2_with fail
      refine HG.out.mono ?_
      rintro e w1 ⟨v0, v1, v2, v3, cv, rfl, hfn, hVA, hE1⟩
      obtain ⟨vk, vp1, vl1, vc1, vp2, vl2, vc2, vp3, vl3, vc3, rfl, rfl, rfl, rfl⟩ := hVA.form
      obtain ⟨fb, hfb⟩ : ∃ fb, (x.map Slot.isFn).getD false = fb := ⟨_, rfl⟩
      rw [hfb] at hfn
      have HFB := Lib.hid hfb
      clear hfb
      cases fb
      · obtain rfl := hfn.no
        clear hfn
        have HE1x := Lib.hid hE1
        have HVA1 := Lib.hid hVA
        clear HG hE1 hVA
        go_upto_region 8 with (fail)
        have eb := HE1x.out.alloc (.cells #[.int .i64 vk, .slice vp1 vl1 vc1, .slice vp2 vl2 vc2, .slice vp3 vl3 vc3, .nilIface] 38)
        have rb := RowC.new 38 w1 [.int .i64 vk, .slice vp1 vl1 vc1, .slice vp2 vl2 vc2, .slice vp3 vl3 vc3, .nilIface]
        have hVA := HVA1.out.ext ((Ext.refl _).alloc (.cells #[.int .i64 vk, .slice vp1 vl1 vc1, .slice vp2 vl2 vc2, .slice vp3 vl3 vc3, .nilIface] 38))
        change RowC _ (w1.alloc (.cells #[.int .i64 vk, .slice vp1 vl1 vc1, .slice vp2 vl2 vc2, .slice vp3 vl3 vc3, .nilIface] 38)) _ _ at rb
        generalize w1.alloc (.cells #[.int .i64 vk, .slice vp1 vl1 vc1, .slice vp2 vl2 vc2, .slice vp3 vl3 vc3, .nilIface] 38) = w2 at *
        generalize w1.heap.size = bv at *
        have HE2 := Lib.hid (HE1.out.trans eb)
        have hrg := HRG.out w2 eb
        have HV2 := Lib.hid rb
        have HVA2 := Lib.hid hVA
        clear HE1x HVA1 HE1 HRG eb rb hVA
        go_wp2_with fail
        refine hrg.mono ?_
        rintro e w3 ⟨r0, r1, r2, r3, rfl, hWA, hE3⟩
        obtain ⟨rk, rp1, rl1, rc1, rp2, rl2, rc2, rp3, rl3, rc3, rfl, rfl, rfl, rfl⟩ := hWA.form
        have HE3 := Lib.hid hE3
        have HWA3 := Lib.hid hWA
        clear hrg hE3 hWA
        obtain ⟨ub, hub⟩ : ∃ ub, (x.map Slot.used).getD false = ub := ⟨_, rfl⟩
        obtain ⟨bo, hbo⟩ : ∃ bo, x.isSome = bo := ⟨_, rfl⟩
        rw [hub, HFB.out, hbo]
        clear HFB
        have htr : (x.map Slot.tree).getD Arr.zero = (Option.map Slot.tree x).getD Arr.zero := rfl
        generalize (Option.map Slot.tree x).getD Arr.zero = tr at *
        clear hub hbo htr
        go_upto_region 9 with (fail)
        have eb := HE3.out.alloc (.cells #[.bool ub, .bool false, .int .i64 rk, .slice rp1 rl1 rc1, .slice rp2 rl2 rc2, .slice rp3 rl3 rc3] 86)
        have rb : RSix (w3.alloc (.cells #[.bool ub, .bool false, .int .i64 rk, .slice rp1 rl1 rc1, .slice rp2 rl2 rc2, .slice rp3 rl3 rc3] 86)) w3.heap.size (.bool ub) (.bool false) (.int .i64 rk) (.slice rp1 rl1 rc1) (.slice rp2 rl2 rc2) (.slice rp3 rl3 rc3) := heap_alloc_new w3 _
        have hWA := HWA3.out.ext ((Ext.refl _).alloc (.cells #[.bool ub, .bool false, .int .i64 rk, .slice rp1 rl1 rc1, .slice rp2 rl2 rc2, .slice rp3 rl3 rc3] 86))
        generalize w3.alloc (.cells #[.bool ub, .bool false, .int .i64 rk, .slice rp1 rl1 rc1, .slice rp2 rl2 rc2, .slice rp3 rl3 rc3] 86) = w4 at *
        generalize w3.heap.size = bw at *
        have HV := Lib.hid (HV2.out.ext eb)
        have HVA := Lib.hid (HVA2.out.ext eb)
        have HW := Lib.hid rb
        have HWA := Lib.hid hWA
        have HE4 := Lib.hid (HE2.out.trans eb)
        clear HE3 HWA3 HV2 HVA2 HE2 eb rb hWA
        cases bo
        · skip
          refine wp_region_x0 [MProp.is (.bool false), MProp.is (.bool false), MProp.is (.bool false), MProp.is (.bool false), MProp.is (.pointer (some ⟨bv, 4, none⟩)), MProp.is (.nilIface), MProp.is (.bool false), MProp.is (.pointer (some ⟨bw, 1, none⟩)), MProp.is (.bool false), MProp.is (.bool false), MProp.is (.bool false), MProp.is (.bool false), MProp.is (.pointer (some ⟨bv, 0, none⟩)), MProp.is (.agg #[.int .i64 vk, .slice vp1 vl1 vc1, .slice vp2 vl2 vc2, .slice vp3 vl3 vc3]), MProp.is (.pointer (some ⟨bw, 2, none⟩)), MProp.is (.agg #[.int .i64 rk, .slice rp1 rl1 rc1, .slice rp2 rl2 rc2, .slice rp3 rl3 rc3]), MProp.is (.bool true), MProp.is (.bool false), MProp.is (.bool false)] [0, 1, 2, 3, 4, 5, 6, 7, 8, 9, 10, 11, 12, 13, 14, 15, 16, 17, 18] [] [38, 39, 40, 41, 42, 43, 44, 45, 46, 47, 48, 49, 50, 51, 52, 53, 54, 55, 56] (by kernel_rfl) (by kernel_rfl) (by kernel_rfl) ?_ ?_ ?_
          · refine mem_cons_m ?_ (mem_cons_m ?_ (mem_cons_m ?_ (mem_cons_m ?_ (mem_cons_m ?_ (mem_cons_m ?_ (mem_cons_m ?_ (mem_cons_m ?_ (mem_cons_m ?_ (mem_cons_m ?_ (mem_cons_m ?_ (mem_cons_m ?_ (mem_cons_m ?_ (mem_cons_m ?_ (mem_cons_m ?_ (mem_cons_m ?_ (mem_cons_m ?_ (mem_cons_m ?_ (mem_cons_m ?_ (mem_nil_m)))))))))))))))))))
            · refine ⟨_, 38, rfl, by kernel_rfl, ?_⟩
              intro u w9 X hE hX hd K hK
              clear hd
              simp only [overlay, List.setIfInBounds_toArray, List.set] at hK ⊢
              go_wp2_with fail
              exact hK _ _ X (Ext.refl _) kept_m hX rfl
            · refine ⟨_, 39, rfl, by kernel_rfl, ?_⟩
              intro u w9 X hE hX hd K hK
              clear hd
              simp only [overlay, List.setIfInBounds_toArray, List.set] at hK ⊢
              go_wp2_with fail
              exact hK _ _ X (Ext.refl _) kept_m hX rfl
            · refine ⟨_, 40, rfl, by kernel_rfl, ?_⟩
              intro u w9 X hE hX hd K hK
              have d0 : u 38 = .bool false := hd 0 (by kernel_rfl)
              have d1 : u 39 = .bool false := hd 1 (by kernel_rfl)
              clear hd
              simp only [overlay, List.setIfInBounds_toArray, List.set, d0, d1] at hK ⊢
              go_wp2_with fail
              exact hK _ _ X (Ext.refl _) kept_m hX rfl
            · refine ⟨_, 41, rfl, by kernel_rfl, ?_⟩
              intro u w9 X hE hX hd K hK
              have d2 : u 40 = .bool false := hd 2 (by kernel_rfl)
              clear hd
              simp only [overlay, List.setIfInBounds_toArray, List.set, d2] at hK ⊢
              go_wp2_with fail
              exact hK _ _ X (Ext.refl _) kept_m hX rfl
            · refine ⟨_, 42, rfl, by kernel_rfl, ?_⟩
              intro u w9 X hE hX hd K hK
              have d3 : u 41 = .bool false := hd 3 (by kernel_rfl)
              clear hd
              simp only [overlay, List.setIfInBounds_toArray, List.set, d3] at hK ⊢
              go_wp2_with fail
              exact hK _ _ X (Ext.refl _) kept_m hX rfl
            · refine ⟨_, 43, rfl, by kernel_rfl, ?_⟩
              intro u w9 X hE hX hd K hK
              have d4 : u 42 = .pointer (some ⟨bv, 4, none⟩) := hd 4 (by kernel_rfl)
              have d3 : u 41 = .bool false := hd 3 (by kernel_rfl)
              clear hd
              simp only [overlay, List.setIfInBounds_toArray, List.set, d4, d3] at hK ⊢
              have e9 : Ext w4 w9 := (Ext.refl w4).drew.trans hE
              obtain ⟨s0, s1, s2, s3, s4⟩ := (HV.out.ext e9).cell5
              go_wp2_with fail
              exact hK _ _ X (Ext.refl _) kept_m hX rfl
            · refine ⟨_, 44, rfl, by kernel_rfl, ?_⟩
              intro u w9 X hE hX hd K hK
              have d5 : u 43 = .nilIface := hd 5 (by kernel_rfl)
              have d3 : u 41 = .bool false := hd 3 (by kernel_rfl)
              clear hd
              simp only [overlay, List.setIfInBounds_toArray, List.set, d5, d3] at hK ⊢
              go_wp2_with fail
              exact hK _ _ X (Ext.refl _) kept_m hX rfl
            · refine ⟨_, 45, rfl, by kernel_rfl, ?_⟩
              intro u w9 X hE hX hd K hK
              have d3 : u 41 = .bool false := hd 3 (by kernel_rfl)
              clear hd
              simp only [overlay, List.setIfInBounds_toArray, List.set, d3] at hK ⊢
              go_wp2_with fail
              exact hK _ _ X (Ext.refl _) kept_m hX rfl
            · refine ⟨_, 46, rfl, by kernel_rfl, ?_⟩
              intro u w9 X hE hX hd K hK
              have d7 : u 45 = .pointer (some ⟨bw, 1, none⟩) := hd 7 (by kernel_rfl)
              have d3 : u 41 = .bool false := hd 3 (by kernel_rfl)
              clear hd
              simp only [overlay, List.setIfInBounds_toArray, List.set, d7, d3] at hK ⊢
              have e9 : Ext w4 w9 := (Ext.refl w4).drew.trans hE
              obtain ⟨s0, s1, s2, s3, s4, s5⟩ := (HW.out.ext e9).cell
              go_wp2_with fail
              exact hK _ _ X (Ext.refl _) kept_m hX rfl
            · refine ⟨_, 47, rfl, by kernel_rfl, ?_⟩
              intro u w9 X hE hX hd K hK
              have d6 : u 44 = .bool false := hd 6 (by kernel_rfl)
              have d8 : u 46 = .bool false := hd 8 (by kernel_rfl)
              have d3 : u 41 = .bool false := hd 3 (by kernel_rfl)
              clear hd
              simp only [overlay, List.setIfInBounds_toArray, List.set, d6, d8, d3] at hK ⊢
              go_wp2_with fail
              exact hK _ _ X (Ext.refl _) kept_m hX rfl
            · refine ⟨_, 48, rfl, by kernel_rfl, ?_⟩
              intro u w9 X hE hX hd K hK
              have d3 : u 41 = .bool false := hd 3 (by kernel_rfl)
              have d9 : u 47 = .bool false := hd 9 (by kernel_rfl)
              clear hd
              simp only [overlay, List.setIfInBounds_toArray, List.set, d3, d9] at hK ⊢
              go_wp2_with fail
              exact hK _ _ X (Ext.refl _) kept_m hX rfl
            · refine ⟨_, 49, rfl, by kernel_rfl, ?_⟩
              intro u w9 X hE hX hd K hK
              have d10 : u 48 = .bool false := hd 10 (by kernel_rfl)
              clear hd
              simp only [overlay, List.setIfInBounds_toArray, List.set, d10] at hK ⊢
              go_wp2_with fail
              exact hK _ _ X (Ext.refl _) kept_m hX rfl
            · refine ⟨_, 50, rfl, by kernel_rfl, ?_⟩
              intro u w9 X hE hX hd K hK
              have d11 : u 49 = .bool false := hd 11 (by kernel_rfl)
              clear hd
              simp only [overlay, List.setIfInBounds_toArray, List.set, d11] at hK ⊢
              go_wp2_with fail
              exact hK _ _ X (Ext.refl _) kept_m hX rfl
            · refine ⟨_, 51, rfl, by kernel_rfl, ?_⟩
              intro u w9 X hE hX hd K hK
              have d12 : u 50 = .pointer (some ⟨bv, 0, none⟩) := hd 12 (by kernel_rfl)
              have d11 : u 49 = .bool false := hd 11 (by kernel_rfl)
              clear hd
              simp only [overlay, List.setIfInBounds_toArray, List.set, d12, d11] at hK ⊢
              have e9 : Ext w4 w9 := (Ext.refl w4).drew.trans hE
              obtain ⟨s0, s1, s2, s3, s4⟩ := (HV.out.ext e9).cell5
              go_wp2_with fail
              exact hK _ _ X (Ext.refl _) kept_m hX rfl
            · refine ⟨_, 52, rfl, by kernel_rfl, ?_⟩
              intro u w9 X hE hX hd K hK
              have d11 : u 49 = .bool false := hd 11 (by kernel_rfl)
              clear hd
              simp only [overlay, List.setIfInBounds_toArray, List.set, d11] at hK ⊢
              go_wp2_with fail
              exact hK _ _ X (Ext.refl _) kept_m hX rfl
            · refine ⟨_, 53, rfl, by kernel_rfl, ?_⟩
              intro u w9 X hE hX hd K hK
              have d14 : u 52 = .pointer (some ⟨bw, 2, none⟩) := hd 14 (by kernel_rfl)
              have d11 : u 49 = .bool false := hd 11 (by kernel_rfl)
              clear hd
              simp only [overlay, List.setIfInBounds_toArray, List.set, d14, d11] at hK ⊢
              have e9 : Ext w4 w9 := (Ext.refl w4).drew.trans hE
              obtain ⟨s0, s1, s2, s3, s4, s5⟩ := (HW.out.ext e9).cell
              go_wp2_with fail
              exact hK _ _ X (Ext.refl _) kept_m hX rfl
            · refine ⟨_, 54, rfl, by kernel_rfl, ?_⟩
              intro u w9 X hE hX hd K hK
              have d13 : u 51 = .agg #[.int .i64 vk, .slice vp1 vl1 vc1, .slice vp2 vl2 vc2, .slice vp3 vl3 vc3] := hd 13 (by kernel_rfl)
              have d15 : u 53 = .agg #[.int .i64 rk, .slice rp1 rl1 rc1, .slice rp2 rl2 rc2, .slice rp3 rl3 rc3] := hd 15 (by kernel_rfl)
              have d11 : u 49 = .bool false := hd 11 (by kernel_rfl)
              clear hd
              simp only [overlay, List.setIfInBounds_toArray, List.set, d13, d15, d11] at hK ⊢
              have e9 : Ext w4 w9 := (Ext.refl w4).drew.trans hE
              go_wp2_with fail
              refine (same_true (Rd.mk (HVA.out.ext e9)) (Rd.mk (HWA.out.ext e9)) rfl rfl).mono ?_
              rintro e w8 ⟨rfl, hE8⟩
              go_wp2_with fail
              exact hK _ _ X hE8 kept_m (hX.ext hE8) rfl
            · refine ⟨_, 55, rfl, by kernel_rfl, ?_⟩
              intro u w9 X hE hX hd K hK
              have d16 : u 54 = .bool true := hd 16 (by kernel_rfl)
              have d11 : u 49 = .bool false := hd 11 (by kernel_rfl)
              clear hd
              simp only [overlay, List.setIfInBounds_toArray, List.set, d16, d11] at hK ⊢
              go_wp2_with fail
              exact hK _ _ X (Ext.refl _) kept_m hX rfl
            · refine ⟨_, 56, rfl, by kernel_rfl, ?_⟩
              intro u w9 X hE hX hd K hK
              have d11 : u 49 = .bool false := hd 11 (by kernel_rfl)
              have d17 : u 55 = .bool false := hd 17 (by kernel_rfl)
              clear hd
              simp only [overlay, List.setIfInBounds_toArray, List.set, d11, d17] at hK ⊢
              go_wp2_with fail
              exact hK _ _ X (Ext.refl _) kept_m hX rfl
          · exact mem_nil_m
          intro u w9 X hE hX hd
          have d0 : u 38 = .bool false := hd 0 (by decide)
          have d1 : u 39 = .bool false := hd 1 (by decide)
          have d2 : u 40 = .bool false := hd 2 (by decide)
          have d3 : u 41 = .bool false := hd 3 (by decide)
          have d4 : u 42 = .pointer (some ⟨bv, 4, none⟩) := hd 4 (by decide)
          have d5 : u 43 = .nilIface := hd 5 (by decide)
          have d6 : u 44 = .bool false := hd 6 (by decide)
          have d7 : u 45 = .pointer (some ⟨bw, 1, none⟩) := hd 7 (by decide)
          have d8 : u 46 = .bool false := hd 8 (by decide)
          have d9 : u 47 = .bool false := hd 9 (by decide)
          have d10 : u 48 = .bool false := hd 10 (by decide)
          have d11 : u 49 = .bool false := hd 11 (by decide)
          have d12 : u 50 = .pointer (some ⟨bv, 0, none⟩) := hd 12 (by decide)
          have d13 : u 51 = .agg #[.int .i64 vk, .slice vp1 vl1 vc1, .slice vp2 vl2 vc2, .slice vp3 vl3 vc3] := hd 13 (by decide)
          have d14 : u 52 = .pointer (some ⟨bw, 2, none⟩) := hd 14 (by decide)
          have d15 : u 53 = .agg #[.int .i64 rk, .slice rp1 rl1 rc1, .slice rp2 rl2 rc2, .slice rp3 rl3 rc3] := hd 15 (by decide)
          have d16 : u 54 = .bool true := hd 16 (by decide)
          have d17 : u 55 = .bool false := hd 17 (by decide)
          have d18 : u 56 = .bool false := hd 18 (by decide)
          clear hd
          simp only [overlay, List.setIfInBounds_toArray, List.set, d0, d1, d2, d3, d4, d5, d6, d7, d8, d9, d10, d11, d12, d13, d14, d15, d16, d17, d18]
          have e9 : Ext w4 w9 := (Ext.refl w4).drew.trans hE
          have HE9 := Lib.hid (HE4.out.trans e9)
          clear d0 d1 d2 d3 d4 d5 d6 d7 d8 d9 d10 d11 d12 d13 d14 d15 d16 d17 d18 hX hE e9
          go_wp2_with fail
          go_roundw
          case rel => exact ⟨s + 1, by omega, by omega, by go_num, HE9.out⟩
          case measure => simp [intOf]; omega
        · skip
          refine wp_region_x0 [MProp.is (.bool true), MProp.is (.bool true), MProp.is (.bool false), MProp.is (.bool false), MProp.is (.pointer (some ⟨bv, 4, none⟩)), MProp.is (.nilIface), MProp.is (.bool false), MProp.is (.pointer (some ⟨bw, 1, none⟩)), MProp.is (.bool false), MProp.is (.bool false), MProp.is (.bool false), MProp.is (.bool false), MProp.is (.pointer (some ⟨bv, 0, none⟩)), MProp.is (.agg #[.int .i64 vk, .slice vp1 vl1 vc1, .slice vp2 vl2 vc2, .slice vp3 vl3 vc3]), MProp.is (.pointer (some ⟨bw, 2, none⟩)), MProp.is (.agg #[.int .i64 rk, .slice rp1 rl1 rc1, .slice rp2 rl2 rc2, .slice rp3 rl3 rc3]), MProp.is (.bool true), MProp.is (.bool false), MProp.is (.bool false)] [0, 1, 2, 3, 4, 5, 6, 7, 8, 9, 10, 11, 12, 13, 14, 15, 16, 17, 18] [] [38, 39, 40, 41, 42, 43, 44, 45, 46, 47, 48, 49, 50, 51, 52, 53, 54, 55, 56] (by kernel_rfl) (by kernel_rfl) (by kernel_rfl) ?_ ?_ ?_
          · refine mem_cons_m ?_ (mem_cons_m ?_ (mem_cons_m ?_ (mem_cons_m ?_ (mem_cons_m ?_ (mem_cons_m ?_ (mem_cons_m ?_ (mem_cons_m ?_ (mem_cons_m ?_ (mem_cons_m ?_ (mem_cons_m ?_ (mem_cons_m ?_ (mem_cons_m ?_ (mem_cons_m ?_ (mem_cons_m ?_ (mem_cons_m ?_ (mem_cons_m ?_ (mem_cons_m ?_ (mem_cons_m ?_ (mem_nil_m)))))))))))))))))))
            · refine ⟨_, 38, rfl, by kernel_rfl, ?_⟩
              intro u w9 X hE hX hd K hK
              clear hd
              simp only [overlay, List.setIfInBounds_toArray, List.set] at hK ⊢
              go_wp2_with fail
              exact hK _ _ X (Ext.refl _) kept_m hX rfl
            · refine ⟨_, 39, rfl, by kernel_rfl, ?_⟩
              intro u w9 X hE hX hd K hK
              clear hd
              simp only [overlay, List.setIfInBounds_toArray, List.set] at hK ⊢
              go_wp2_with fail
              exact hK _ _ X (Ext.refl _) kept_m hX rfl
            · refine ⟨_, 40, rfl, by kernel_rfl, ?_⟩
              intro u w9 X hE hX hd K hK
              have d0 : u 38 = .bool true := hd 0 (by kernel_rfl)
              have d1 : u 39 = .bool true := hd 1 (by kernel_rfl)
              clear hd
              simp only [overlay, List.setIfInBounds_toArray, List.set, d0, d1] at hK ⊢
              go_wp2_with fail
              exact hK _ _ X (Ext.refl _) kept_m hX rfl
            · refine ⟨_, 41, rfl, by kernel_rfl, ?_⟩
              intro u w9 X hE hX hd K hK
              have d2 : u 40 = .bool false := hd 2 (by kernel_rfl)
              clear hd
              simp only [overlay, List.setIfInBounds_toArray, List.set, d2] at hK ⊢
              go_wp2_with fail
              exact hK _ _ X (Ext.refl _) kept_m hX rfl
            · refine ⟨_, 42, rfl, by kernel_rfl, ?_⟩
              intro u w9 X hE hX hd K hK
              have d3 : u 41 = .bool false := hd 3 (by kernel_rfl)
              clear hd
              simp only [overlay, List.setIfInBounds_toArray, List.set, d3] at hK ⊢
              go_wp2_with fail
              exact hK _ _ X (Ext.refl _) kept_m hX rfl
            · refine ⟨_, 43, rfl, by kernel_rfl, ?_⟩
              intro u w9 X hE hX hd K hK
              have d4 : u 42 = .pointer (some ⟨bv, 4, none⟩) := hd 4 (by kernel_rfl)
              have d3 : u 41 = .bool false := hd 3 (by kernel_rfl)
              clear hd
              simp only [overlay, List.setIfInBounds_toArray, List.set, d4, d3] at hK ⊢
              have e9 : Ext w4 w9 := (Ext.refl w4).drew.trans hE
              obtain ⟨s0, s1, s2, s3, s4⟩ := (HV.out.ext e9).cell5
              go_wp2_with fail
              exact hK _ _ X (Ext.refl _) kept_m hX rfl
            · refine ⟨_, 44, rfl, by kernel_rfl, ?_⟩
              intro u w9 X hE hX hd K hK
              have d5 : u 43 = .nilIface := hd 5 (by kernel_rfl)
              have d3 : u 41 = .bool false := hd 3 (by kernel_rfl)
              clear hd
              simp only [overlay, List.setIfInBounds_toArray, List.set, d5, d3] at hK ⊢
              go_wp2_with fail
              exact hK _ _ X (Ext.refl _) kept_m hX rfl
            · refine ⟨_, 45, rfl, by kernel_rfl, ?_⟩
              intro u w9 X hE hX hd K hK
              have d3 : u 41 = .bool false := hd 3 (by kernel_rfl)
              clear hd
              simp only [overlay, List.setIfInBounds_toArray, List.set, d3] at hK ⊢
              go_wp2_with fail
              exact hK _ _ X (Ext.refl _) kept_m hX rfl
            · refine ⟨_, 46, rfl, by kernel_rfl, ?_⟩
              intro u w9 X hE hX hd K hK
              have d7 : u 45 = .pointer (some ⟨bw, 1, none⟩) := hd 7 (by kernel_rfl)
              have d3 : u 41 = .bool false := hd 3 (by kernel_rfl)
              clear hd
              simp only [overlay, List.setIfInBounds_toArray, List.set, d7, d3] at hK ⊢
              have e9 : Ext w4 w9 := (Ext.refl w4).drew.trans hE
              obtain ⟨s0, s1, s2, s3, s4, s5⟩ := (HW.out.ext e9).cell
              go_wp2_with fail
              exact hK _ _ X (Ext.refl _) kept_m hX rfl
            · refine ⟨_, 47, rfl, by kernel_rfl, ?_⟩
              intro u w9 X hE hX hd K hK
              have d6 : u 44 = .bool false := hd 6 (by kernel_rfl)
              have d8 : u 46 = .bool false := hd 8 (by kernel_rfl)
              have d3 : u 41 = .bool false := hd 3 (by kernel_rfl)
              clear hd
              simp only [overlay, List.setIfInBounds_toArray, List.set, d6, d8, d3] at hK ⊢
              go_wp2_with fail
              exact hK _ _ X (Ext.refl _) kept_m hX rfl
            · refine ⟨_, 48, rfl, by kernel_rfl, ?_⟩
              intro u w9 X hE hX hd K hK
              have d3 : u 41 = .bool false := hd 3 (by kernel_rfl)
              have d9 : u 47 = .bool false := hd 9 (by kernel_rfl)
              clear hd
              simp only [overlay, List.setIfInBounds_toArray, List.set, d3, d9] at hK ⊢
              go_wp2_with fail
              exact hK _ _ X (Ext.refl _) kept_m hX rfl
            · refine ⟨_, 49, rfl, by kernel_rfl, ?_⟩
              intro u w9 X hE hX hd K hK
              have d10 : u 48 = .bool false := hd 10 (by kernel_rfl)
              clear hd
              simp only [overlay, List.setIfInBounds_toArray, List.set, d10] at hK ⊢
              go_wp2_with fail
              exact hK _ _ X (Ext.refl _) kept_m hX rfl
            · refine ⟨_, 50, rfl, by kernel_rfl, ?_⟩
              intro u w9 X hE hX hd K hK
              have d11 : u 49 = .bool false := hd 11 (by kernel_rfl)
              clear hd
              simp only [overlay, List.setIfInBounds_toArray, List.set, d11] at hK ⊢
              go_wp2_with fail
              exact hK _ _ X (Ext.refl _) kept_m hX rfl
            · refine ⟨_, 51, rfl, by kernel_rfl, ?_⟩
              intro u w9 X hE hX hd K hK
              have d12 : u 50 = .pointer (some ⟨bv, 0, none⟩) := hd 12 (by kernel_rfl)
              have d11 : u 49 = .bool false := hd 11 (by kernel_rfl)
              clear hd
              simp only [overlay, List.setIfInBounds_toArray, List.set, d12, d11] at hK ⊢
              have e9 : Ext w4 w9 := (Ext.refl w4).drew.trans hE
              obtain ⟨s0, s1, s2, s3, s4⟩ := (HV.out.ext e9).cell5
              go_wp2_with fail
              exact hK _ _ X (Ext.refl _) kept_m hX rfl
            · refine ⟨_, 52, rfl, by kernel_rfl, ?_⟩
              intro u w9 X hE hX hd K hK
              have d11 : u 49 = .bool false := hd 11 (by kernel_rfl)
              clear hd
              simp only [overlay, List.setIfInBounds_toArray, List.set, d11] at hK ⊢
              go_wp2_with fail
              exact hK _ _ X (Ext.refl _) kept_m hX rfl
            · refine ⟨_, 53, rfl, by kernel_rfl, ?_⟩
              intro u w9 X hE hX hd K hK
              have d14 : u 52 = .pointer (some ⟨bw, 2, none⟩) := hd 14 (by kernel_rfl)
              have d11 : u 49 = .bool false := hd 11 (by kernel_rfl)
              clear hd
              simp only [overlay, List.setIfInBounds_toArray, List.set, d14, d11] at hK ⊢
              have e9 : Ext w4 w9 := (Ext.refl w4).drew.trans hE
              obtain ⟨s0, s1, s2, s3, s4, s5⟩ := (HW.out.ext e9).cell
              go_wp2_with fail
              exact hK _ _ X (Ext.refl _) kept_m hX rfl
            · refine ⟨_, 54, rfl, by kernel_rfl, ?_⟩
              intro u w9 X hE hX hd K hK
              have d13 : u 51 = .agg #[.int .i64 vk, .slice vp1 vl1 vc1, .slice vp2 vl2 vc2, .slice vp3 vl3 vc3] := hd 13 (by kernel_rfl)
              have d15 : u 53 = .agg #[.int .i64 rk, .slice rp1 rl1 rc1, .slice rp2 rl2 rc2, .slice rp3 rl3 rc3] := hd 15 (by kernel_rfl)
              have d11 : u 49 = .bool false := hd 11 (by kernel_rfl)
              clear hd
              simp only [overlay, List.setIfInBounds_toArray, List.set, d13, d15, d11] at hK ⊢
              have e9 : Ext w4 w9 := (Ext.refl w4).drew.trans hE
              go_wp2_with fail
              refine (same_true (Rd.mk (HVA.out.ext e9)) (Rd.mk (HWA.out.ext e9)) rfl rfl).mono ?_
              rintro e w8 ⟨rfl, hE8⟩
              go_wp2_with fail
              exact hK _ _ X hE8 kept_m (hX.ext hE8) rfl
            · refine ⟨_, 55, rfl, by kernel_rfl, ?_⟩
              intro u w9 X hE hX hd K hK
              have d16 : u 54 = .bool true := hd 16 (by kernel_rfl)
              have d11 : u 49 = .bool false := hd 11 (by kernel_rfl)
              clear hd
              simp only [overlay, List.setIfInBounds_toArray, List.set, d16, d11] at hK ⊢
              go_wp2_with fail
              exact hK _ _ X (Ext.refl _) kept_m hX rfl
            · refine ⟨_, 56, rfl, by kernel_rfl, ?_⟩
              intro u w9 X hE hX hd K hK
              have d11 : u 49 = .bool false := hd 11 (by kernel_rfl)
              have d17 : u 55 = .bool false := hd 17 (by kernel_rfl)
              clear hd
              simp only [overlay, List.setIfInBounds_toArray, List.set, d11, d17] at hK ⊢
              go_wp2_with fail
              exact hK _ _ X (Ext.refl _) kept_m hX rfl
          · exact mem_nil_m
          intro u w9 X hE hX hd
          have d0 : u 38 = .bool true := hd 0 (by decide)
          have d1 : u 39 = .bool true := hd 1 (by decide)
          have d2 : u 40 = .bool false := hd 2 (by decide)
          have d3 : u 41 = .bool false := hd 3 (by decide)
          have d4 : u 42 = .pointer (some ⟨bv, 4, none⟩) := hd 4 (by decide)
          have d5 : u 43 = .nilIface := hd 5 (by decide)
          have d6 : u 44 = .bool false := hd 6 (by decide)
          have d7 : u 45 = .pointer (some ⟨bw, 1, none⟩) := hd 7 (by decide)
          have d8 : u 46 = .bool false := hd 8 (by decide)
          have d9 : u 47 = .bool false := hd 9 (by decide)
          have d10 : u 48 = .bool false := hd 10 (by decide)
          have d11 : u 49 = .bool false := hd 11 (by decide)
          have d12 : u 50 = .pointer (some ⟨bv, 0, none⟩) := hd 12 (by decide)
          have d13 : u 51 = .agg #[.int .i64 vk, .slice vp1 vl1 vc1, .slice vp2 vl2 vc2, .slice vp3 vl3 vc3] := hd 13 (by decide)
          have d14 : u 52 = .pointer (some ⟨bw, 2, none⟩) := hd 14 (by decide)
          have d15 : u 53 = .agg #[.int .i64 rk, .slice rp1 rl1 rc1, .slice rp2 rl2 rc2, .slice rp3 rl3 rc3] := hd 15 (by decide)
          have d16 : u 54 = .bool true := hd 16 (by decide)
          have d17 : u 55 = .bool false := hd 17 (by decide)
          have d18 : u 56 = .bool false := hd 18 (by decide)
          clear hd
          simp only [overlay, List.setIfInBounds_toArray, List.set, d0, d1, d2, d3, d4, d5, d6, d7, d8, d9, d10, d11, d12, d13, d14, d15, d16, d17, d18]
          have e9 : Ext w4 w9 := (Ext.refl w4).drew.trans hE
          have HE9 := Lib.hid (HE4.out.trans e9)
          clear d0 d1 d2 d3 d4 d5 d6 d7 d8 d9 d10 d11 d12 d13 d14 d15 d16 d17 d18 hX hE e9
          go_wp2_with fail
          go_roundw
          case rel => exact ⟨s + 1, by omega, by omega, by go_num, HE9.out⟩
          case measure => simp [intOf]; omega
      · obtain ⟨T9, x9, rfl⟩ := hfn.yes
        clear hfn
        have HE1x := Lib.hid hE1
        have HVA1 := Lib.hid hVA
        clear HG hE1 hVA
        go_upto_region 8 with (fail)
        have eb := HE1x.out.alloc (.cells #[.int .i64 vk, .slice vp1 vl1 vc1, .slice vp2 vl2 vc2, .slice vp3 vl3 vc3, .iface T9 x9] 38)
        have rb := RowC.new 38 w1 [.int .i64 vk, .slice vp1 vl1 vc1, .slice vp2 vl2 vc2, .slice vp3 vl3 vc3, .iface T9 x9]
        have hVA := HVA1.out.ext ((Ext.refl _).alloc (.cells #[.int .i64 vk, .slice vp1 vl1 vc1, .slice vp2 vl2 vc2, .slice vp3 vl3 vc3, .iface T9 x9] 38))
        change RowC _ (w1.alloc (.cells #[.int .i64 vk, .slice vp1 vl1 vc1, .slice vp2 vl2 vc2, .slice vp3 vl3 vc3, .iface T9 x9] 38)) _ _ at rb
        generalize w1.alloc (.cells #[.int .i64 vk, .slice vp1 vl1 vc1, .slice vp2 vl2 vc2, .slice vp3 vl3 vc3, .iface T9 x9] 38) = w2 at *
        generalize w1.heap.size = bv at *
        have HE2 := Lib.hid (HE1.out.trans eb)
        have hrg := HRG.out w2 eb
        have HV2 := Lib.hid rb
        have HVA2 := Lib.hid hVA
        clear HE1x HVA1 HE1 HRG eb rb hVA
        go_wp2_with fail
        refine hrg.mono ?_
        rintro e w3 ⟨r0, r1, r2, r3, rfl, hWA, hE3⟩
        obtain ⟨rk, rp1, rl1, rc1, rp2, rl2, rc2, rp3, rl3, rc3, rfl, rfl, rfl, rfl⟩ := hWA.form
        have HE3 := Lib.hid hE3
        have HWA3 := Lib.hid hWA
        clear hrg hE3 hWA
        obtain ⟨ub, hub⟩ : ∃ ub, (x.map Slot.used).getD false = ub := ⟨_, rfl⟩
        obtain ⟨bo, hbo⟩ : ∃ bo, x.isSome = bo := ⟨_, rfl⟩
        rw [hub, HFB.out, hbo]
        clear HFB
        have htr : (x.map Slot.tree).getD Arr.zero = (Option.map Slot.tree x).getD Arr.zero := rfl
        generalize (Option.map Slot.tree x).getD Arr.zero = tr at *
        clear hub hbo htr
        go_upto_region 9 with (fail)
        have eb := HE3.out.alloc (.cells #[.bool ub, .bool true, .int .i64 rk, .slice rp1 rl1 rc1, .slice rp2 rl2 rc2, .slice rp3 rl3 rc3] 86)
        have rb : RSix (w3.alloc (.cells #[.bool ub, .bool true, .int .i64 rk, .slice rp1 rl1 rc1, .slice rp2 rl2 rc2, .slice rp3 rl3 rc3] 86)) w3.heap.size (.bool ub) (.bool true) (.int .i64 rk) (.slice rp1 rl1 rc1) (.slice rp2 rl2 rc2) (.slice rp3 rl3 rc3) := heap_alloc_new w3 _
        have hWA := HWA3.out.ext ((Ext.refl _).alloc (.cells #[.bool ub, .bool true, .int .i64 rk, .slice rp1 rl1 rc1, .slice rp2 rl2 rc2, .slice rp3 rl3 rc3] 86))
        generalize w3.alloc (.cells #[.bool ub, .bool true, .int .i64 rk, .slice rp1 rl1 rc1, .slice rp2 rl2 rc2, .slice rp3 rl3 rc3] 86) = w4 at *
        generalize w3.heap.size = bw at *
        have HV := Lib.hid (HV2.out.ext eb)
        have HVA := Lib.hid (HVA2.out.ext eb)
        have HW := Lib.hid rb
        have HWA := Lib.hid hWA
        have HE4 := Lib.hid (HE2.out.trans eb)
        clear HE3 HWA3 HV2 HVA2 HE2 eb rb hWA
        cases bo
        · skip
          refine wp_region_x0 [MProp.is (.bool false), MProp.is (.bool false), MProp.is (.bool false), MProp.is (.bool false), MProp.is (.pointer (some ⟨bv, 4, none⟩)), MProp.is (.iface T9 x9), MProp.is (.bool true), MProp.is (.pointer (some ⟨bw, 1, none⟩)), MProp.is (.bool true), MProp.is (.bool false), MProp.is (.bool false), MProp.is (.bool false), MProp.is (.pointer (some ⟨bv, 0, none⟩)), MProp.is (.agg #[.int .i64 vk, .slice vp1 vl1 vc1, .slice vp2 vl2 vc2, .slice vp3 vl3 vc3]), MProp.is (.pointer (some ⟨bw, 2, none⟩)), MProp.is (.agg #[.int .i64 rk, .slice rp1 rl1 rc1, .slice rp2 rl2 rc2, .slice rp3 rl3 rc3]), MProp.is (.bool true), MProp.is (.bool false), MProp.is (.bool false)] [0, 1, 2, 3, 4, 5, 6, 7, 8, 9, 10, 11, 12, 13, 14, 15, 16, 17, 18] [] [38, 39, 40, 41, 42, 43, 44, 45, 46, 47, 48, 49, 50, 51, 52, 53, 54, 55, 56] (by kernel_rfl) (by kernel_rfl) (by kernel_rfl) ?_ ?_ ?_
          · refine mem_cons_m ?_ (mem_cons_m ?_ (mem_cons_m ?_ (mem_cons_m ?_ (mem_cons_m ?_ (mem_cons_m ?_ (mem_cons_m ?_ (mem_cons_m ?_ (mem_cons_m ?_ (mem_cons_m ?_ (mem_cons_m ?_ (mem_cons_m ?_ (mem_cons_m ?_ (mem_cons_m ?_ (mem_cons_m ?_ (mem_cons_m ?_ (mem_cons_m ?_ (mem_cons_m ?_ (mem_cons_m ?_ (mem_nil_m)))))))))))))))))))
            · refine ⟨_, 38, rfl, by kernel_rfl, ?_⟩
              intro u w9 X hE hX hd K hK
              clear hd
              simp only [overlay, List.setIfInBounds_toArray, List.set] at hK ⊢
              go_wp2_with fail
              exact hK _ _ X (Ext.refl _) kept_m hX rfl
            · refine ⟨_, 39, rfl, by kernel_rfl, ?_⟩
              intro u w9 X hE hX hd K hK
              clear hd
              simp only [overlay, List.setIfInBounds_toArray, List.set] at hK ⊢
              go_wp2_with fail
              exact hK _ _ X (Ext.refl _) kept_m hX rfl
            · refine ⟨_, 40, rfl, by kernel_rfl, ?_⟩
              intro u w9 X hE hX hd K hK
              have d0 : u 38 = .bool false := hd 0 (by kernel_rfl)
              have d1 : u 39 = .bool false := hd 1 (by kernel_rfl)
              clear hd
              simp only [overlay, List.setIfInBounds_toArray, List.set, d0, d1] at hK ⊢
              go_wp2_with fail
              exact hK _ _ X (Ext.refl _) kept_m hX rfl
            · refine ⟨_, 41, rfl, by kernel_rfl, ?_⟩
              intro u w9 X hE hX hd K hK
              have d2 : u 40 = .bool false := hd 2 (by kernel_rfl)
              clear hd
              simp only [overlay, List.setIfInBounds_toArray, List.set, d2] at hK ⊢
              go_wp2_with fail
              exact hK _ _ X (Ext.refl _) kept_m hX rfl
            · refine ⟨_, 42, rfl, by kernel_rfl, ?_⟩
              intro u w9 X hE hX hd K hK
              have d3 : u 41 = .bool false := hd 3 (by kernel_rfl)
              clear hd
              simp only [overlay, List.setIfInBounds_toArray, List.set, d3] at hK ⊢
              go_wp2_with fail
              exact hK _ _ X (Ext.refl _) kept_m hX rfl
            · refine ⟨_, 43, rfl, by kernel_rfl, ?_⟩
              intro u w9 X hE hX hd K hK
              have d4 : u 42 = .pointer (some ⟨bv, 4, none⟩) := hd 4 (by kernel_rfl)
              have d3 : u 41 = .bool false := hd 3 (by kernel_rfl)
              clear hd
              simp only [overlay, List.setIfInBounds_toArray, List.set, d4, d3] at hK ⊢
              have e9 : Ext w4 w9 := (Ext.refl w4).drew.trans hE
              obtain ⟨s0, s1, s2, s3, s4⟩ := (HV.out.ext e9).cell5
              go_wp2_with fail
              exact hK _ _ X (Ext.refl _) kept_m hX rfl
            · refine ⟨_, 44, rfl, by kernel_rfl, ?_⟩
              intro u w9 X hE hX hd K hK
              have d5 : u 43 = .iface T9 x9 := hd 5 (by kernel_rfl)
              have d3 : u 41 = .bool false := hd 3 (by kernel_rfl)
              clear hd
              simp only [overlay, List.setIfInBounds_toArray, List.set, d5, d3] at hK ⊢
              go_wp2_with fail
              exact hK _ _ X (Ext.refl _) kept_m hX rfl
            · refine ⟨_, 45, rfl, by kernel_rfl, ?_⟩
              intro u w9 X hE hX hd K hK
              have d3 : u 41 = .bool false := hd 3 (by kernel_rfl)
              clear hd
              simp only [overlay, List.setIfInBounds_toArray, List.set, d3] at hK ⊢
              go_wp2_with fail
              exact hK _ _ X (Ext.refl _) kept_m hX rfl
            · refine ⟨_, 46, rfl, by kernel_rfl, ?_⟩
              intro u w9 X hE hX hd K hK
              have d7 : u 45 = .pointer (some ⟨bw, 1, none⟩) := hd 7 (by kernel_rfl)
              have d3 : u 41 = .bool false := hd 3 (by kernel_rfl)
              clear hd
              simp only [overlay, List.setIfInBounds_toArray, List.set, d7, d3] at hK ⊢
              have e9 : Ext w4 w9 := (Ext.refl w4).drew.trans hE
              obtain ⟨s0, s1, s2, s3, s4, s5⟩ := (HW.out.ext e9).cell
              go_wp2_with fail
              exact hK _ _ X (Ext.refl _) kept_m hX rfl
            · refine ⟨_, 47, rfl, by kernel_rfl, ?_⟩
              intro u w9 X hE hX hd K hK
              have d6 : u 44 = .bool true := hd 6 (by kernel_rfl)
              have d8 : u 46 = .bool true := hd 8 (by kernel_rfl)
              have d3 : u 41 = .bool false := hd 3 (by kernel_rfl)
              clear hd
              simp only [overlay, List.setIfInBounds_toArray, List.set, d6, d8, d3] at hK ⊢
              go_wp2_with fail
              exact hK _ _ X (Ext.refl _) kept_m hX rfl
            · refine ⟨_, 48, rfl, by kernel_rfl, ?_⟩
              intro u w9 X hE hX hd K hK
              have d3 : u 41 = .bool false := hd 3 (by kernel_rfl)
              have d9 : u 47 = .bool false := hd 9 (by kernel_rfl)
              clear hd
              simp only [overlay, List.setIfInBounds_toArray, List.set, d3, d9] at hK ⊢
              go_wp2_with fail
              exact hK _ _ X (Ext.refl _) kept_m hX rfl
            · refine ⟨_, 49, rfl, by kernel_rfl, ?_⟩
              intro u w9 X hE hX hd K hK
              have d10 : u 48 = .bool false := hd 10 (by kernel_rfl)
              clear hd
              simp only [overlay, List.setIfInBounds_toArray, List.set, d10] at hK ⊢
              go_wp2_with fail
              exact hK _ _ X (Ext.refl _) kept_m hX rfl
            · refine ⟨_, 50, rfl, by kernel_rfl, ?_⟩
              intro u w9 X hE hX hd K hK
              have d11 : u 49 = .bool false := hd 11 (by kernel_rfl)
              clear hd
              simp only [overlay, List.setIfInBounds_toArray, List.set, d11] at hK ⊢
              go_wp2_with fail
              exact hK _ _ X (Ext.refl _) kept_m hX rfl
            · refine ⟨_, 51, rfl, by kernel_rfl, ?_⟩
              intro u w9 X hE hX hd K hK
              have d12 : u 50 = .pointer (some ⟨bv, 0, none⟩) := hd 12 (by kernel_rfl)
              have d11 : u 49 = .bool false := hd 11 (by kernel_rfl)
              clear hd
              simp only [overlay, List.setIfInBounds_toArray, List.set, d12, d11] at hK ⊢
              have e9 : Ext w4 w9 := (Ext.refl w4).drew.trans hE
              obtain ⟨s0, s1, s2, s3, s4⟩ := (HV.out.ext e9).cell5
              go_wp2_with fail
              exact hK _ _ X (Ext.refl _) kept_m hX rfl
            · refine ⟨_, 52, rfl, by kernel_rfl, ?_⟩
              intro u w9 X hE hX hd K hK
              have d11 : u 49 = .bool false := hd 11 (by kernel_rfl)
              clear hd
              simp only [overlay, List.setIfInBounds_toArray, List.set, d11] at hK ⊢
              go_wp2_with fail
              exact hK _ _ X (Ext.refl _) kept_m hX rfl
            · refine ⟨_, 53, rfl, by kernel_rfl, ?_⟩
              intro u w9 X hE hX hd K hK
              have d14 : u 52 = .pointer (some ⟨bw, 2, none⟩) := hd 14 (by kernel_rfl)
              have d11 : u 49 = .bool false := hd 11 (by kernel_rfl)
              clear hd
              simp only [overlay, List.setIfInBounds_toArray, List.set, d14, d11] at hK ⊢
              have e9 : Ext w4 w9 := (Ext.refl w4).drew.trans hE
              obtain ⟨s0, s1, s2, s3, s4, s5⟩ := (HW.out.ext e9).cell
              go_wp2_with fail
              exact hK _ _ X (Ext.refl _) kept_m hX rfl
            · refine ⟨_, 54, rfl, by kernel_rfl, ?_⟩
              intro u w9 X hE hX hd K hK
              have d13 : u 51 = .agg #[.int .i64 vk, .slice vp1 vl1 vc1, .slice vp2 vl2 vc2, .slice vp3 vl3 vc3] := hd 13 (by kernel_rfl)
              have d15 : u 53 = .agg #[.int .i64 rk, .slice rp1 rl1 rc1, .slice rp2 rl2 rc2, .slice rp3 rl3 rc3] := hd 15 (by kernel_rfl)
              have d11 : u 49 = .bool false := hd 11 (by kernel_rfl)
              clear hd
              simp only [overlay, List.setIfInBounds_toArray, List.set, d13, d15, d11] at hK ⊢
              have e9 : Ext w4 w9 := (Ext.refl w4).drew.trans hE
              go_wp2_with fail
              refine (same_true (Rd.mk (HVA.out.ext e9)) (Rd.mk (HWA.out.ext e9)) rfl rfl).mono ?_
              rintro e w8 ⟨rfl, hE8⟩
              go_wp2_with fail
              exact hK _ _ X hE8 kept_m (hX.ext hE8) rfl
            · refine ⟨_, 55, rfl, by kernel_rfl, ?_⟩
              intro u w9 X hE hX hd K hK
              have d16 : u 54 = .bool true := hd 16 (by kernel_rfl)
              have d11 : u 49 = .bool false := hd 11 (by kernel_rfl)
              clear hd
              simp only [overlay, List.setIfInBounds_toArray, List.set, d16, d11] at hK ⊢
              go_wp2_with fail
              exact hK _ _ X (Ext.refl _) kept_m hX rfl
            · refine ⟨_, 56, rfl, by kernel_rfl, ?_⟩
              intro u w9 X hE hX hd K hK
              have d11 : u 49 = .bool false := hd 11 (by kernel_rfl)
              have d17 : u 55 = .bool false := hd 17 (by kernel_rfl)
              clear hd
              simp only [overlay, List.setIfInBounds_toArray, List.set, d11, d17] at hK ⊢
              go_wp2_with fail
              exact hK _ _ X (Ext.refl _) kept_m hX rfl
          · exact mem_nil_m
          intro u w9 X hE hX hd
          have d0 : u 38 = .bool false := hd 0 (by decide)
          have d1 : u 39 = .bool false := hd 1 (by decide)
          have d2 : u 40 = .bool false := hd 2 (by decide)
          have d3 : u 41 = .bool false := hd 3 (by decide)
          have d4 : u 42 = .pointer (some ⟨bv, 4, none⟩) := hd 4 (by decide)
          have d5 : u 43 = .iface T9 x9 := hd 5 (by decide)
          have d6 : u 44 = .bool true := hd 6 (by decide)
          have d7 : u 45 = .pointer (some ⟨bw, 1, none⟩) := hd 7 (by decide)
          have d8 : u 46 = .bool true := hd 8 (by decide)
          have d9 : u 47 = .bool false := hd 9 (by decide)
          have d10 : u 48 = .bool false := hd 10 (by decide)
          have d11 : u 49 = .bool false := hd 11 (by decide)
          have d12 : u 50 = .pointer (some ⟨bv, 0, none⟩) := hd 12 (by decide)
          have d13 : u 51 = .agg #[.int .i64 vk, .slice vp1 vl1 vc1, .slice vp2 vl2 vc2, .slice vp3 vl3 vc3] := hd 13 (by decide)
          have d14 : u 52 = .pointer (some ⟨bw, 2, none⟩) := hd 14 (by decide)
          have d15 : u 53 = .agg #[.int .i64 rk, .slice rp1 rl1 rc1, .slice rp2 rl2 rc2, .slice rp3 rl3 rc3] := hd 15 (by decide)
          have d16 : u 54 = .bool true := hd 16 (by decide)
          have d17 : u 55 = .bool false := hd 17 (by decide)
          have d18 : u 56 = .bool false := hd 18 (by decide)
          clear hd
          simp only [overlay, List.setIfInBounds_toArray, List.set, d0, d1, d2, d3, d4, d5, d6, d7, d8, d9, d10, d11, d12, d13, d14, d15, d16, d17, d18]
          have e9 : Ext w4 w9 := (Ext.refl w4).drew.trans hE
          have HE9 := Lib.hid (HE4.out.trans e9)
          clear d0 d1 d2 d3 d4 d5 d6 d7 d8 d9 d10 d11 d12 d13 d14 d15 d16 d17 d18 hX hE e9
          go_wp2_with fail
          go_roundw
          case rel => exact ⟨s + 1, by omega, by omega, by go_num, HE9.out⟩
          case measure => simp [intOf]; omega
        · skip
          refine wp_region_x0 [MProp.is (.bool true), MProp.is (.bool true), MProp.is (.bool false), MProp.is (.bool false), MProp.is (.pointer (some ⟨bv, 4, none⟩)), MProp.is (.iface T9 x9), MProp.is (.bool true), MProp.is (.pointer (some ⟨bw, 1, none⟩)), MProp.is (.bool true), MProp.is (.bool false), MProp.is (.bool false), MProp.is (.bool false), MProp.is (.pointer (some ⟨bv, 0, none⟩)), MProp.is (.agg #[.int .i64 vk, .slice vp1 vl1 vc1, .slice vp2 vl2 vc2, .slice vp3 vl3 vc3]), MProp.is (.pointer (some ⟨bw, 2, none⟩)), MProp.is (.agg #[.int .i64 rk, .slice rp1 rl1 rc1, .slice rp2 rl2 rc2, .slice rp3 rl3 rc3]), MProp.is (.bool true), MProp.is (.bool false), MProp.is (.bool false)] [0, 1, 2, 3, 4, 5, 6, 7, 8, 9, 10, 11, 12, 13, 14, 15, 16, 17, 18] [] [38, 39, 40, 41, 42, 43, 44, 45, 46, 47, 48, 49, 50, 51, 52, 53, 54, 55, 56] (by kernel_rfl) (by kernel_rfl) (by kernel_rfl) ?_ ?_ ?_
          · refine mem_cons_m ?_ (mem_cons_m ?_ (mem_cons_m ?_ (mem_cons_m ?_ (mem_cons_m ?_ (mem_cons_m ?_ (mem_cons_m ?_ (mem_cons_m ?_ (mem_cons_m ?_ (mem_cons_m ?_ (mem_cons_m ?_ (mem_cons_m ?_ (mem_cons_m ?_ (mem_cons_m ?_ (mem_cons_m ?_ (mem_cons_m ?_ (mem_cons_m ?_ (mem_cons_m ?_ (mem_cons_m ?_ (mem_nil_m)))))))))))))))))))
            · refine ⟨_, 38, rfl, by kernel_rfl, ?_⟩
              intro u w9 X hE hX hd K hK
              clear hd
              simp only [overlay, List.setIfInBounds_toArray, List.set] at hK ⊢
              go_wp2_with fail
              exact hK _ _ X (Ext.refl _) kept_m hX rfl
            · refine ⟨_, 39, rfl, by kernel_rfl, ?_⟩
              intro u w9 X hE hX hd K hK
              clear hd
              simp only [overlay, List.setIfInBounds_toArray, List.set] at hK ⊢
              go_wp2_with fail
              exact hK _ _ X (Ext.refl _) kept_m hX rfl
            · refine ⟨_, 40, rfl, by kernel_rfl, ?_⟩
              intro u w9 X hE hX hd K hK
              have d0 : u 38 = .bool true := hd 0 (by kernel_rfl)
              have d1 : u 39 = .bool true := hd 1 (by kernel_rfl)
              clear hd
              simp only [overlay, List.setIfInBounds_toArray, List.set, d0, d1] at hK ⊢
              go_wp2_with fail
              exact hK _ _ X (Ext.refl _) kept_m hX rfl
            · refine ⟨_, 41, rfl, by kernel_rfl, ?_⟩
              intro u w9 X hE hX hd K hK
              have d2 : u 40 = .bool false := hd 2 (by kernel_rfl)
              clear hd
              simp only [overlay, List.setIfInBounds_toArray, List.set, d2] at hK ⊢
              go_wp2_with fail
              exact hK _ _ X (Ext.refl _) kept_m hX rfl
            · refine ⟨_, 42, rfl, by kernel_rfl, ?_⟩
              intro u w9 X hE hX hd K hK
              have d3 : u 41 = .bool false := hd 3 (by kernel_rfl)
              clear hd
              simp only [overlay, List.setIfInBounds_toArray, List.set, d3] at hK ⊢
              go_wp2_with fail
              exact hK _ _ X (Ext.refl _) kept_m hX rfl
            · refine ⟨_, 43, rfl, by kernel_rfl, ?_⟩
              intro u w9 X hE hX hd K hK
              have d4 : u 42 = .pointer (some ⟨bv, 4, none⟩) := hd 4 (by kernel_rfl)
              have d3 : u 41 = .bool false := hd 3 (by kernel_rfl)
              clear hd
              simp only [overlay, List.setIfInBounds_toArray, List.set, d4, d3] at hK ⊢
              have e9 : Ext w4 w9 := (Ext.refl w4).drew.trans hE
              obtain ⟨s0, s1, s2, s3, s4⟩ := (HV.out.ext e9).cell5
              go_wp2_with fail
              exact hK _ _ X (Ext.refl _) kept_m hX rfl
            · refine ⟨_, 44, rfl, by kernel_rfl, ?_⟩
              intro u w9 X hE hX hd K hK
              have d5 : u 43 = .iface T9 x9 := hd 5 (by kernel_rfl)
              have d3 : u 41 = .bool false := hd 3 (by kernel_rfl)
              clear hd
              simp only [overlay, List.setIfInBounds_toArray, List.set, d5, d3] at hK ⊢
              go_wp2_with fail
              exact hK _ _ X (Ext.refl _) kept_m hX rfl
            · refine ⟨_, 45, rfl, by kernel_rfl, ?_⟩
              intro u w9 X hE hX hd K hK
              have d3 : u 41 = .bool false := hd 3 (by kernel_rfl)
              clear hd
              simp only [overlay, List.setIfInBounds_toArray, List.set, d3] at hK ⊢
              go_wp2_with fail
              exact hK _ _ X (Ext.refl _) kept_m hX rfl
            · refine ⟨_, 46, rfl, by kernel_rfl, ?_⟩
              intro u w9 X hE hX hd K hK
              have d7 : u 45 = .pointer (some ⟨bw, 1, none⟩) := hd 7 (by kernel_rfl)
              have d3 : u 41 = .bool false := hd 3 (by kernel_rfl)
              clear hd
              simp only [overlay, List.setIfInBounds_toArray, List.set, d7, d3] at hK ⊢
              have e9 : Ext w4 w9 := (Ext.refl w4).drew.trans hE
              obtain ⟨s0, s1, s2, s3, s4, s5⟩ := (HW.out.ext e9).cell
              go_wp2_with fail
              exact hK _ _ X (Ext.refl _) kept_m hX rfl
            · refine ⟨_, 47, rfl, by kernel_rfl, ?_⟩
              intro u w9 X hE hX hd K hK
              have d6 : u 44 = .bool true := hd 6 (by kernel_rfl)
              have d8 : u 46 = .bool true := hd 8 (by kernel_rfl)
              have d3 : u 41 = .bool false := hd 3 (by kernel_rfl)
              clear hd
              simp only [overlay, List.setIfInBounds_toArray, List.set, d6, d8, d3] at hK ⊢
              go_wp2_with fail
              exact hK _ _ X (Ext.refl _) kept_m hX rfl
            · refine ⟨_, 48, rfl, by kernel_rfl, ?_⟩
              intro u w9 X hE hX hd K hK
              have d3 : u 41 = .bool false := hd 3 (by kernel_rfl)
              have d9 : u 47 = .bool false := hd 9 (by kernel_rfl)
              clear hd
              simp only [overlay, List.setIfInBounds_toArray, List.set, d3, d9] at hK ⊢
              go_wp2_with fail
              exact hK _ _ X (Ext.refl _) kept_m hX rfl
            · refine ⟨_, 49, rfl, by kernel_rfl, ?_⟩
              intro u w9 X hE hX hd K hK
              have d10 : u 48 = .bool false := hd 10 (by kernel_rfl)
              clear hd
              simp only [overlay, List.setIfInBounds_toArray, List.set, d10] at hK ⊢
              go_wp2_with fail
              exact hK _ _ X (Ext.refl _) kept_m hX rfl
            · refine ⟨_, 50, rfl, by kernel_rfl, ?_⟩
              intro u w9 X hE hX hd K hK
              have d11 : u 49 = .bool false := hd 11 (by kernel_rfl)
              clear hd
              simp only [overlay, List.setIfInBounds_toArray, List.set, d11] at hK ⊢
              go_wp2_with fail
              exact hK _ _ X (Ext.refl _) kept_m hX rfl
            · refine ⟨_, 51, rfl, by kernel_rfl, ?_⟩
              intro u w9 X hE hX hd K hK
              have d12 : u 50 = .pointer (some ⟨bv, 0, none⟩) := hd 12 (by kernel_rfl)
              have d11 : u 49 = .bool false := hd 11 (by kernel_rfl)
              clear hd
              simp only [overlay, List.setIfInBounds_toArray, List.set, d12, d11] at hK ⊢
              have e9 : Ext w4 w9 := (Ext.refl w4).drew.trans hE
              obtain ⟨s0, s1, s2, s3, s4⟩ := (HV.out.ext e9).cell5
              go_wp2_with fail
              exact hK _ _ X (Ext.refl _) kept_m hX rfl
            · refine ⟨_, 52, rfl, by kernel_rfl, ?_⟩
              intro u w9 X hE hX hd K hK
              have d11 : u 49 = .bool false := hd 11 (by kernel_rfl)
              clear hd
              simp only [overlay, List.setIfInBounds_toArray, List.set, d11] at hK ⊢
              go_wp2_with fail
              exact hK _ _ X (Ext.refl _) kept_m hX rfl
            · refine ⟨_, 53, rfl, by kernel_rfl, ?_⟩
              intro u w9 X hE hX hd K hK
              have d14 : u 52 = .pointer (some ⟨bw, 2, none⟩) := hd 14 (by kernel_rfl)
              have d11 : u 49 = .bool false := hd 11 (by kernel_rfl)
              clear hd
              simp only [overlay, List.setIfInBounds_toArray, List.set, d14, d11] at hK ⊢
              have e9 : Ext w4 w9 := (Ext.refl w4).drew.trans hE
              obtain ⟨s0, s1, s2, s3, s4, s5⟩ := (HW.out.ext e9).cell
              go_wp2_with fail
              exact hK _ _ X (Ext.refl _) kept_m hX rfl
            · refine ⟨_, 54, rfl, by kernel_rfl, ?_⟩
              intro u w9 X hE hX hd K hK
              have d13 : u 51 = .agg #[.int .i64 vk, .slice vp1 vl1 vc1, .slice vp2 vl2 vc2, .slice vp3 vl3 vc3] := hd 13 (by kernel_rfl)
              have d15 : u 53 = .agg #[.int .i64 rk, .slice rp1 rl1 rc1, .slice rp2 rl2 rc2, .slice rp3 rl3 rc3] := hd 15 (by kernel_rfl)
              have d11 : u 49 = .bool false := hd 11 (by kernel_rfl)
              clear hd
              simp only [overlay, List.setIfInBounds_toArray, List.set, d13, d15, d11] at hK ⊢
              have e9 : Ext w4 w9 := (Ext.refl w4).drew.trans hE
              go_wp2_with fail
              refine (same_true (Rd.mk (HVA.out.ext e9)) (Rd.mk (HWA.out.ext e9)) rfl rfl).mono ?_
              rintro e w8 ⟨rfl, hE8⟩
              go_wp2_with fail
              exact hK _ _ X hE8 kept_m (hX.ext hE8) rfl
            · refine ⟨_, 55, rfl, by kernel_rfl, ?_⟩
              intro u w9 X hE hX hd K hK
              have d16 : u 54 = .bool true := hd 16 (by kernel_rfl)
              have d11 : u 49 = .bool false := hd 11 (by kernel_rfl)
              clear hd
              simp only [overlay, List.setIfInBounds_toArray, List.set, d16, d11] at hK ⊢
              go_wp2_with fail
              exact hK _ _ X (Ext.refl _) kept_m hX rfl
            · refine ⟨_, 56, rfl, by kernel_rfl, ?_⟩
              intro u w9 X hE hX hd K hK
              have d11 : u 49 = .bool false := hd 11 (by kernel_rfl)
              have d17 : u 55 = .bool false := hd 17 (by kernel_rfl)
              clear hd
              simp only [overlay, List.setIfInBounds_toArray, List.set, d11, d17] at hK ⊢
              go_wp2_with fail
              exact hK _ _ X (Ext.refl _) kept_m hX rfl
          · exact mem_nil_m
          intro u w9 X hE hX hd
          have d0 : u 38 = .bool true := hd 0 (by decide)
          have d1 : u 39 = .bool true := hd 1 (by decide)
          have d2 : u 40 = .bool false := hd 2 (by decide)
          have d3 : u 41 = .bool false := hd 3 (by decide)
          have d4 : u 42 = .pointer (some ⟨bv, 4, none⟩) := hd 4 (by decide)
          have d5 : u 43 = .iface T9 x9 := hd 5 (by decide)
          have d6 : u 44 = .bool true := hd 6 (by decide)
          have d7 : u 45 = .pointer (some ⟨bw, 1, none⟩) := hd 7 (by decide)
          have d8 : u 46 = .bool true := hd 8 (by decide)
          have d9 : u 47 = .bool false := hd 9 (by decide)
          have d10 : u 48 = .bool false := hd 10 (by decide)
          have d11 : u 49 = .bool false := hd 11 (by decide)
          have d12 : u 50 = .pointer (some ⟨bv, 0, none⟩) := hd 12 (by decide)
          have d13 : u 51 = .agg #[.int .i64 vk, .slice vp1 vl1 vc1, .slice vp2 vl2 vc2, .slice vp3 vl3 vc3] := hd 13 (by decide)
          have d14 : u 52 = .pointer (some ⟨bw, 2, none⟩) := hd 14 (by decide)
          have d15 : u 53 = .agg #[.int .i64 rk, .slice rp1 rl1 rc1, .slice rp2 rl2 rc2, .slice rp3 rl3 rc3] := hd 15 (by decide)
          have d16 : u 54 = .bool true := hd 16 (by decide)
          have d17 : u 55 = .bool false := hd 17 (by decide)
          have d18 : u 56 = .bool false := hd 18 (by decide)
          clear hd
          simp only [overlay, List.setIfInBounds_toArray, List.set, d0, d1, d2, d3, d4, d5, d6, d7, d8, d9, d10, d11, d12, d13, d14, d15, d16, d17, d18]
          have e9 : Ext w4 w9 := (Ext.refl w4).drew.trans hE
          have HE9 := Lib.hid (HE4.out.trans e9)
          clear d0 d1 d2 d3 d4 d5 d6 d7 d8 d9 d10 d11 d12 d13 d14 d15 d16 d17 d18 hX hE e9
          go_wp2_with fail
          go_roundw
          case rel => exact ⟨s + 1, by omega, by omega, by go_num, HE9.out⟩
          case measure => simp [intOf]; omega
    obtain rfl : s = 22 := by omega
    go_wp2_with fail
    go_roundw
    case rel => exact ⟨d + 1, by omega, by omega, by go_num, hE⟩
    case measure => simp [intOf]; omega
  obtain rfl : d = n + 1 := by omega
  have ha := arrs_any (fun _ => True) p l (by have := HL.out; omega) wo (HF.out.ext hE0)
  rw [frArrs_rf] at ha
  have HAr := Lib.hid (fun w' (e : Ext wo w') => rarrs_any R (.slice pw n cw) (l.map Prod.snd) (by have := HL.out; simp; omega) w' (HR.out.ext (hE0.trans e)))
  have hlen : (rfArrs (l.map Prod.snd)).length ≤ 1000 * 16384 := by
    have := rfArrs_len (l.map Prod.snd) (fun s hs => by
      obtain ⟨i, hi, rfl⟩ := List.getElem_of_mem hs
      obtain ⟨_, _, _, _, _, _, h, _⟩ := HR.out.row hi
      exact h)
    have h2 := HL.out
    simp only [List.length_map] at this
    omega
  generalize rfArrs (l.map Prod.snd) = al at *
  obtain ⟨na, hna⟩ : ∃ na, al.length = na := ⟨_, rfl⟩
  rw [hna] at ha hlen
  have HA := Lib.hid ha
  have HNA := Lib.hid hna
  have HE0 := Lib.hid hE0
  clear ha hna hE0 hlt hd1 hd2
  go_wp2_with fail
  refine HA.out.mono ?_
  rintro e w1 ⟨pa, ca, rfl, hka, hia, hE1⟩
  have har := HAr.out w1 hE1
  rw [HNA.out] at har
  have HIA := Lib.hid hia
  have HE1 := Lib.hid (HE0.out.trans hE1)
  clear HA HAr HE0 hka hia hE1
  go_wp2_with fail
  refine har.mono ?_
  rintro e w2 ⟨pb, cb, rfl, hkb, hib, hE2⟩
  replace HIA := Lib.hid (HIA.out.ext hE2)
  have HIB := Lib.hid hib
  have HE2 := Lib.hid (HE1.out.trans hE2)
  clear har HE1 hkb hib hE2
  have hdp := depth_any p (l.map Prod.fst) (by have := HL.out; simp; omega) w2 (HF.out.ext HE2.out).chain
  rw [List.length_map, ← HN.out] at hdp
  have HD := Lib.hid hdp
  clear hdp
  go_wp2_with fail
  refine HD.out.mono ?_
  rintro e w3 ⟨rfl, hE3⟩
  replace HIA := Lib.hid (HIA.out.ext hE3)
  replace HIB := Lib.hid (HIB.out.ext hE3)
  have HE3 := Lib.hid (HE2.out.trans hE3)
  clear HD HE2 hE3
  go_wp2_with fail
  refine (rdepth_any pw n cw w3 (by omega)).mono ?_
  rintro e w4 ⟨rfl, rfl⟩
  go_wp2_with fail
  go_loopw [13] (fun i wr => ∃ k : Nat, k ≤ na ∧ i = .int .i64 k ∧ Ext w3 wr) (fun i _ => na - (intOf i).toNat)
  case atStart => exact ⟨0, by omega, rfl, Ext.refl _⟩
  case round =>
  obtain ⟨i, hi, rfl, hE⟩ := hrel
  by_cases hlti : i < na
  · obtain ⟨gx, ox, x0, x1, x2, x3, rfl, _, i0, i1, i2, i3, hAi⟩ := ItemsAt.get _ _ 0 i (HIA.out.ext hE) (by rw [HNA.out]; exact hlti)
    obtain ⟨gy, oy, y0, y1, y2, y3, rfl, _, j0, j1, j2, j3, hBi⟩ := ItemsAt.get _ _ 0 i (HIB.out.ext hE) (by rw [HNA.out]; exact hlti)
    obtain ⟨vk, vp1, vl1, vc1, vp2, vl2, vc2, vp3, vl3, vc3, rfl, rfl, rfl, rfl⟩ := hAi.form
    obtain ⟨rk, rp1, rl1, rc1, rp2, rl2, rc2, rp3, rl3, rc3, rfl, rfl, rfl, rfl⟩ := hBi.form
    simp only [Nat.zero_add] at i0 i1 i2 i3 j0 j1 j2 j3
    have HVA := Lib.hid hAi
    have HWA := Lib.hid hBi
    have HE4 := Lib.hid hE
    clear hAi hBi hE
    go_wp2_with fail
    refine wp_region_x0 [MProp.is (.slice (some ⟨gx, ox, none⟩) na ca), MProp.is (.int .i64 (i : Int)), MProp.is (.pointer (some ⟨gx, ox + i * 4, none⟩)), MProp.is (.agg #[.int .i64 vk, .slice vp1 vl1 vc1, .slice vp2 vl2 vc2, .slice vp3 vl3 vc3]), MProp.is (.slice (some ⟨gy, oy, none⟩) na cb), MProp.is (.int .i64 (i : Int)), MProp.is (.pointer (some ⟨gy, oy + i * 4, none⟩)), MProp.is (.agg #[.int .i64 rk, .slice rp1 rl1 rc1, .slice rp2 rl2 rc2, .slice rp3 rl3 rc3]), MProp.is (.bool true), MProp.is (.bool false)] [0, 1, 2, 3, 4, 5, 6, 7, 8, 9] [] [79, 80, 81, 82, 83, 84, 85, 86, 87, 88] (by kernel_rfl) (by kernel_rfl) (by kernel_rfl) ?_ ?_ ?_
    · refine mem_cons_m ?_ (mem_cons_m ?_ (mem_cons_m ?_ (mem_cons_m ?_ (mem_cons_m ?_ (mem_cons_m ?_ (mem_cons_m ?_ (mem_cons_m ?_ (mem_cons_m ?_ (mem_cons_m ?_ (mem_nil_m))))))))))
      · refine ⟨_, 79, rfl, by kernel_rfl, ?_⟩
        intro u w9 X hE hX hd K hK
        clear hd
        simp only [overlay, List.setIfInBounds_toArray, List.set] at hK ⊢
        go_wp2_with fail
        exact hK _ _ X (Ext.refl _) kept_m hX rfl
      · refine ⟨_, 80, rfl, by kernel_rfl, ?_⟩
        intro u w9 X hE hX hd K hK
        clear hd
        simp only [overlay, List.setIfInBounds_toArray, List.set] at hK ⊢
        go_wp2_with fail
        exact hK _ _ X (Ext.refl _) kept_m hX rfl
      · refine ⟨_, 81, rfl, by kernel_rfl, ?_⟩
        intro u w9 X hE hX hd K hK
        have d0 : u 79 = .slice (some ⟨gx, ox, none⟩) na ca := hd 0 (by kernel_rfl)
        have d1 : u 80 = .int .i64 (i : Int) := hd 1 (by kernel_rfl)
        clear hd
        simp only [overlay, List.setIfInBounds_toArray, List.set, d0, d1] at hK ⊢
        go_wp2_with fail
        exact hK _ _ X (Ext.refl _) kept_m hX rfl
      · refine ⟨_, 82, rfl, by kernel_rfl, ?_⟩
        intro u w9 X hE hX hd K hK
        have d2 : u 81 = .pointer (some ⟨gx, ox + i * 4, none⟩) := hd 2 (by kernel_rfl)
        clear hd
        simp only [overlay, List.setIfInBounds_toArray, List.set, d2] at hK ⊢
        have e9 : Ext wr w9 := (Ext.refl wr).drew.trans hE
        have a0 := e9.cell i0
        have a1 := e9.cell i1
        have a2 := e9.cell i2
        have a3 := e9.cell i3
        go_wp2_with fail
        exact hK _ _ X (Ext.refl _) kept_m hX rfl
      · refine ⟨_, 83, rfl, by kernel_rfl, ?_⟩
        intro u w9 X hE hX hd K hK
        clear hd
        simp only [overlay, List.setIfInBounds_toArray, List.set] at hK ⊢
        go_wp2_with fail
        exact hK _ _ X (Ext.refl _) kept_m hX rfl
      · refine ⟨_, 84, rfl, by kernel_rfl, ?_⟩
        intro u w9 X hE hX hd K hK
        clear hd
        simp only [overlay, List.setIfInBounds_toArray, List.set] at hK ⊢
        go_wp2_with fail
        exact hK _ _ X (Ext.refl _) kept_m hX rfl
      · refine ⟨_, 85, rfl, by kernel_rfl, ?_⟩
        intro u w9 X hE hX hd K hK
        have d4 : u 83 = .slice (some ⟨gy, oy, none⟩) na cb := hd 4 (by kernel_rfl)
        have d5 : u 84 = .int .i64 (i : Int) := hd 5 (by kernel_rfl)
        clear hd
        simp only [overlay, List.setIfInBounds_toArray, List.set, d4, d5] at hK ⊢
        go_wp2_with fail
        exact hK _ _ X (Ext.refl _) kept_m hX rfl
      · refine ⟨_, 86, rfl, by kernel_rfl, ?_⟩
        intro u w9 X hE hX hd K hK
        have d6 : u 85 = .pointer (some ⟨gy, oy + i * 4, none⟩) := hd 6 (by kernel_rfl)
        clear hd
        simp only [overlay, List.setIfInBounds_toArray, List.set, d6] at hK ⊢
        have e9 : Ext wr w9 := (Ext.refl wr).drew.trans hE
        have a0 := e9.cell j0
        have a1 := e9.cell j1
        have a2 := e9.cell j2
        have a3 := e9.cell j3
        go_wp2_with fail
        exact hK _ _ X (Ext.refl _) kept_m hX rfl
      · refine ⟨_, 87, rfl, by kernel_rfl, ?_⟩
        intro u w9 X hE hX hd K hK
        have d3 : u 82 = .agg #[.int .i64 vk, .slice vp1 vl1 vc1, .slice vp2 vl2 vc2, .slice vp3 vl3 vc3] := hd 3 (by kernel_rfl)
        have d7 : u 86 = .agg #[.int .i64 rk, .slice rp1 rl1 rc1, .slice rp2 rl2 rc2, .slice rp3 rl3 rc3] := hd 7 (by kernel_rfl)
        clear hd
        simp only [overlay, List.setIfInBounds_toArray, List.set, d3, d7] at hK ⊢
        have e9 : Ext wr w9 := (Ext.refl wr).drew.trans hE
        go_wp2_with fail
        refine (same_true (Rd.mk (HVA.out.ext e9)) (Rd.mk (HWA.out.ext e9)) rfl rfl).mono ?_
        rintro e w8 ⟨rfl, hE8⟩
        go_wp2_with fail
        exact hK _ _ X hE8 kept_m (hX.ext hE8) rfl
      · refine ⟨_, 88, rfl, by kernel_rfl, ?_⟩
        intro u w9 X hE hX hd K hK
        have d8 : u 87 = .bool true := hd 8 (by kernel_rfl)
        clear hd
        simp only [overlay, List.setIfInBounds_toArray, List.set, d8] at hK ⊢
        go_wp2_with fail
        exact hK _ _ X (Ext.refl _) kept_m hX rfl
    · exact mem_nil_m
    intro u w9 X hE hX hd
    have d0 : u 79 = .slice (some ⟨gx, ox, none⟩) na ca := hd 0 (by decide)
    have d1 : u 80 = .int .i64 (i : Int) := hd 1 (by decide)
    have d2 : u 81 = .pointer (some ⟨gx, ox + i * 4, none⟩) := hd 2 (by decide)
    have d3 : u 82 = .agg #[.int .i64 vk, .slice vp1 vl1 vc1, .slice vp2 vl2 vc2, .slice vp3 vl3 vc3] := hd 3 (by decide)
    have d4 : u 83 = .slice (some ⟨gy, oy, none⟩) na cb := hd 4 (by decide)
    have d5 : u 84 = .int .i64 (i : Int) := hd 5 (by decide)
    have d6 : u 85 = .pointer (some ⟨gy, oy + i * 4, none⟩) := hd 6 (by decide)
    have d7 : u 86 = .agg #[.int .i64 rk, .slice rp1 rl1 rc1, .slice rp2 rl2 rc2, .slice rp3 rl3 rc3] := hd 7 (by decide)
    have d8 : u 87 = .bool true := hd 8 (by decide)
    have d9 : u 88 = .bool false := hd 9 (by decide)
    clear hd
    simp only [overlay, List.setIfInBounds_toArray, List.set, d0, d1, d2, d3, d4, d5, d6, d7, d8, d9]
    have e9 : Ext wr w9 := (Ext.refl wr).drew.trans hE
    have HE9 := Lib.hid (HE4.out.trans e9)
    clear d0 d1 d2 d3 d4 d5 d6 d7 d8 d9 hX hE e9
    go_wp2_with fail
    go_roundw
    case rel => exact ⟨i + 1, by omega, by go_num, HE9.out⟩
    case measure => simp [intOf]; omega
  obtain rfl : i = na := by omega
  go_wp2_with fail
  go_ret
  exact ⟨rfl, HE3.out.trans hE⟩
end Go.Proofs.Ytgkemmdghmklfaa
