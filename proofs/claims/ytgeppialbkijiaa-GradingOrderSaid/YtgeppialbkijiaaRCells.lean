/-
  THE WALK of the reference's Cells. (Printed by gen_rcells.py.)
-/
import Derived.Test.YtgeppialbkijiaaCCells
import Derived.Test.YtgeppialbkijiaaRFrame
namespace Go.Proofs.Ytgeppialbkijiaa
set_option linter.unusedSimpArgs false
set_option linter.unusedVariables false
open Go.RowKit

theorem take_drop_at {α : Type} (l : List α) (a q : Nat) (ha : a ≤ q) (h : q < l.length) : (l.drop a).take (q + 1 - a) = (l.drop a).take (q - a) ++ [l[q]] := by
  rw [show q + 1 - a = (q - a) + 1 by omega, List.take_succ_eq_append_getElem (by rw [List.length_drop]; omega), List.getElem_drop]
  congr 2
  simp only [show a + (q - a) = q by omega]

set_option maxRecDepth 100000 in
set_option maxHeartbeats 4000000 in
theorem rcells_any (F : Nat → Prop) (x : Arr) (c0 c1 c2 c3 : Value) (k : Int) (w : World) (hx : ArrAt F w x c0 c1 c2 c3) (hk : -9223372036854775808 ≤ k ∧ k ≤ 9223372036854775807) :
    Calls Try.prog 39 #[.agg #[c0, c1, c2, c3], .int .i64 k] w fun e w' => ∃ v, e = .returned v ∧ RdAA w.heap.size w' (cellsV x k) v ∧ Ext w w' := by
  obtain ⟨kx, s, nx, ix⟩ := x
  have hx' := hx
  unfold ArrAt at hx'
  obtain ⟨rfl, hkx, ⟨p1, m1, rfl, ⟨o1, o1', o1''⟩, i1⟩, ⟨p2, m2, rfl, ⟨o2, o2', o2''⟩, i2⟩, ⟨p3, m3, rfl, ⟨o3, o3', o3''⟩, i3⟩⟩ := hx'
  have HX := Lib.hid hx
  have HS := Lib.hid i1
  clear hx i1 i2 i3
  have HV : Hid (cellsV (.mk kx s nx ix) k = if rightV (.mk kx s nx ix) ≠ 0 then [] else
    (List.range (shapeSize (s.take (s.length - (rankV k s.length).toNat))).toNat).map fun i =>
      partV (.mk kx s nx ix) (i * (shapeSize (s.drop (s.length - (rankV k s.length).toNat))).toNat) (shapeSize (s.drop (s.length - (rankV k s.length).toNat))).toNat (s.drop (s.length - (rankV k s.length).toNat))) := rfl
  generalize cellsV (.mk kx s nx ix) k = fv at *
  have HRP := Lib.hid (@right_parts kx s nx ix)
  go_enter Try.func39, Try.ntmps39
  have hE0 : Ext w (w.alloc (.cells #[.int .i64 kx, .slice p1 s.length m1, .slice p2 nx.length m2, .slice p3 ix.length m3] 26)) := (Ext.refl _).alloc _
  have hB := box_new w (.int .i64 kx) (.slice p1 s.length m1) (.slice p2 nx.length m2) (.slice p3 ix.length m3)
  have HR := Lib.hid (rright6_any F _ _ _ _ _ _ (HX.out.ext hE0))
  have HE := Lib.hid hE0
  have HB := Lib.hid hB
  clear hE0 hB
  go_wp2_with fail
  refine HR.out.mono ?_
  rintro e w2 ⟨rfl, hE1⟩
  replace HE := Lib.hid (HE.out.trans hE1)
  have HBx := Lib.hid (HB.out.ext hE1)
  clear HR HB hE1
  generalize rightV (.mk kx s nx ix) = r at *
  by_cases hr : r = 0
  rotate_left
  · have hr1 : (r != 0) = true := by simpa using hr
    have HV2 := Lib.hid (show fv = [] by rw [HV.out, if_pos hr])
    clear hr
    go_wp2_with fail
    go_ret
    refine ⟨_, rfl, ?_, HE.out⟩
    rw [HV2.out]
    exact ⟨none, 0, rfl, ⟨by simp, by simp, by simp⟩, by unfold ItemsAt; trivial⟩
  subst hr
  obtain ⟨_, h8, hrt, hn3, hi3⟩ := HRP.out rfl
  have hbd := rankV_bd k s.length (by omega)
  obtain ⟨rv, hrv⟩ : ∃ rv : Nat, rankV k s.length = rv := ⟨(rankV k s.length).toNat, by omega⟩
  rw [hrv] at hbd
  have HRK := Lib.hid (show ∀ w, Calls Try.prog 76 #[.int .i64 k, .int .i64 (s.length : Int)] w fun e w' => e = .returned (.int .i64 (rv : Int)) ∧ Ext w w' from fun w => by
    have h := rrank_any k s.length w hk (by omega)
    rw [hrv] at h
    exact same_ext h)
  obtain ⟨n, hn⟩ : ∃ n, s.length - rv = n := ⟨_, rfl⟩
  obtain ⟨hsp, ht0, ht1, hd0, hd1⟩ := size_split hrt h8 n
  have HV2 := Lib.hid (show fv = (List.range (shapeSize (s.take n)).toNat).map fun i => partV (.mk kx s nx ix) (i * (shapeSize (s.drop n)).toNat) (shapeSize (s.drop n)).toNat (s.drop n) by rw [HV.out, if_neg (by simp), hrv, Int.toNat_natCast, hn])
  have hnl : n ≤ s.length := by omega
  have htl : (s.take n).length = n := by rw [List.length_take]; omega
  have hdl : (s.drop n).length = s.length - n := by rw [List.length_drop]
  have hct := HS.out.cut (n := n) 0 m1 o1
  rw [List.drop_zero] at hct
  have hcd := HS.out.cut (n := s.length - n) n m1 o1
  rw [List.take_of_length_le (by omega)] at hcd
  have hws : IntKind.i64.wrap ((s.length : Int) - (rv : Int)) = (n : Int) := by rw [show (s.length : Int) - (rv : Int) = (n : Int) by omega]; exact IntWalk.i64_in _ (by omega)
  have hrt1 := fun w => slice_h p1 s.length m1 w n (by omega)
  have hrd1 := fun w => slice_l p1 s.length m1 w n (by omega)
  generalize cutAt p1 0 m1 1 = pt at *
  generalize cutAt p1 n m1 1 = pd at *
  obtain ⟨ln, hln⟩ : ∃ ln, s.length - n = ln := ⟨_, rfl⟩
  obtain ⟨md, hmd⟩ : ∃ md, m1 - n = md := ⟨_, rfl⟩
  rw [hln] at hrd1 hdl
  rw [hmd] at hrd1
  have hlm : ln ≤ md ∧ md ≤ 9223372036854775807 ∧ ln ≤ 8 := by omega
  have hs1 := fun (w' : World) (e : Ext w w') => (r2size_any F pt m1 (s.take n) w' (hct.ext e) (by unfold lenMax; omega))
  have hs2 := fun (w' : World) (e : Ext w w') => (r2size_any F pd md (s.drop n) w' (hcd.ext e) (by unfold lenMax; omega))
  rw [htl] at hs1
  rw [hdl] at hs2
  generalize htn : s.take n = tn at *
  generalize hdn : s.drop n = dn at *
  obtain ⟨cn, hcn⟩ : ∃ cn : Nat, shapeSize tn = cn := ⟨(shapeSize tn).toNat, by omega⟩
  obtain ⟨zn, hzn⟩ : ∃ zn : Nat, shapeSize dn = zn := ⟨(shapeSize dn).toNat, by omega⟩
  rw [hcn] at hs1 hsp ht1
  rw [hzn] at hs2 hsp hd1
  have HV3 := Lib.hid (show fv = (List.range cn).map fun i => partV (.mk kx s nx ix) (i * zn) zn dn by rw [HV2.out, hcn, hzn, Int.toNat_natCast, Int.toNat_natCast])
  have HS1 := Lib.hid hs1
  have HS2 := Lib.hid hs2
  have hnc : kx ≠ 3 → nx.length = cn * zn := fun h => by have := (hn3 h).2; rw [hsp] at this; exact_mod_cast this
  have hic : kx = 3 → ix.length = cn * zn := fun h => by have := (hi3 h).2; rw [hsp] at this; exact_mod_cast this
  have HNC := Lib.hid hnc
  have HIC := Lib.hid hic
  have hc6 : cn ≤ 65536 := by omega
  have hz6 : zn ≤ 65536 := by omega
  have HDL := Lib.hid hdl
  have HCD := Lib.hid hcd
  have HEw := Lib.hid HE.out
  clear hct hcd hrv htl hdl HV HV2 hn hs1 hs2 hsp ht0 ht1 hd0 hd1 hcn hzn hnc hic htn hdn hrt hn3 hi3 HRP hln hmd
  go_wp2_with fail
  have HAx : Hid True := Lib.hid trivial
  refine wp_region_x1 [MProp.is (.pointer (some ⟨w.heap.size, 1, none⟩)), MProp.is (.slice p1 s.length m1), MProp.is (.int .i64 (s.length : Int)), MProp.is (.int .i64 k), MProp.is (.pointer (some ⟨w.heap.size, 1, none⟩)), MProp.is (.slice p1 s.length m1), MProp.is (.int .i64 (s.length : Int)), MProp.is (.int .i64 (rv : Int)), MProp.is (.int .i64 (n : Int))] [0, 1, 2, 3, 4, 5, 6, 7, 8] [] [15, 16, 17, 18, 19, 20, 21, 22, 23] 9 (by kernel_rfl) (by kernel_rfl) (by kernel_rfl) rfl ?_ ?_ ?_
  · refine mem_cons_m ?_ (mem_cons_m ?_ (mem_cons_m ?_ (mem_cons_m ?_ (mem_cons_m ?_ (mem_cons_m ?_ (mem_cons_m ?_ (mem_cons_m ?_ (mem_cons_m ?_ (mem_nil_m)))))))))
    · refine ⟨_, 15, rfl, by kernel_rfl, ?_⟩
      intro u w9 X hE hX hd K hK
      clear hd
      simp only [overlay, List.setIfInBounds_toArray, List.set] at hK ⊢
      go_wp2_with fail
      exact hK _ _ X (Ext.refl _) kept_m hX rfl
    · refine ⟨_, 16, rfl, by kernel_rfl, ?_⟩
      intro u w9 X hE hX hd K hK
      have d0 : u 15 = .pointer (some ⟨w.heap.size, 1, none⟩) := hd 0 (by kernel_rfl)
      clear hd
      simp only [overlay, List.setIfInBounds_toArray, List.set, d0] at hK ⊢
      have e9 : Ext w2 w9 := (Ext.refl w2).drew.trans hE
      obtain ⟨s0, s1, s2, s3⟩ := (HBx.out.ext e9).cell
      go_wp2_with fail
      exact hK _ _ X (Ext.refl _) kept_m hX rfl
    · refine ⟨_, 17, rfl, by kernel_rfl, ?_⟩
      intro u w9 X hE hX hd K hK
      have d1 : u 16 = .slice p1 s.length m1 := hd 1 (by kernel_rfl)
      clear hd
      simp only [overlay, List.setIfInBounds_toArray, List.set, d1] at hK ⊢
      go_wp2_with fail
      exact hK _ _ X (Ext.refl _) kept_m hX rfl
    · refine ⟨_, 18, rfl, by kernel_rfl, ?_⟩
      intro u w9 X hE hX hd K hK
      clear hd
      simp only [overlay, List.setIfInBounds_toArray, List.set] at hK ⊢
      go_wp2_with fail
      exact hK _ _ X (Ext.refl _) kept_m hX rfl
    · refine ⟨_, 19, rfl, by kernel_rfl, ?_⟩
      intro u w9 X hE hX hd K hK
      clear hd
      simp only [overlay, List.setIfInBounds_toArray, List.set] at hK ⊢
      go_wp2_with fail
      exact hK _ _ X (Ext.refl _) kept_m hX rfl
    · refine ⟨_, 20, rfl, by kernel_rfl, ?_⟩
      intro u w9 X hE hX hd K hK
      have d4 : u 19 = .pointer (some ⟨w.heap.size, 1, none⟩) := hd 4 (by kernel_rfl)
      clear hd
      simp only [overlay, List.setIfInBounds_toArray, List.set, d4] at hK ⊢
      have e9 : Ext w2 w9 := (Ext.refl w2).drew.trans hE
      obtain ⟨s0, s1, s2, s3⟩ := (HBx.out.ext e9).cell
      go_wp2_with fail
      exact hK _ _ X (Ext.refl _) kept_m hX rfl
    · refine ⟨_, 21, rfl, by kernel_rfl, ?_⟩
      intro u w9 X hE hX hd K hK
      have d5 : u 20 = .slice p1 s.length m1 := hd 5 (by kernel_rfl)
      clear hd
      simp only [overlay, List.setIfInBounds_toArray, List.set, d5] at hK ⊢
      go_wp2_with fail
      exact hK _ _ X (Ext.refl _) kept_m hX rfl
    · refine ⟨_, 22, rfl, by kernel_rfl, ?_⟩
      intro u w9 X hE hX hd K hK
      have d3 : u 18 = .int .i64 k := hd 3 (by kernel_rfl)
      have d6 : u 21 = .int .i64 (s.length : Int) := hd 6 (by kernel_rfl)
      clear hd
      simp only [overlay, List.setIfInBounds_toArray, List.set, d3, d6] at hK ⊢
      have e9 : Ext w2 w9 := (Ext.refl w2).drew.trans hE
      go_wp2_with fail
      refine (HRK.out w9).mono ?_
      rintro e w8 ⟨rfl, hE8⟩
      go_wp2_with fail
      exact hK _ _ X hE8 kept_m (hX.ext hE8) rfl
    · refine ⟨_, 23, rfl, by kernel_rfl, ?_⟩
      intro u w9 X hE hX hd K hK
      have d2 : u 17 = .int .i64 (s.length : Int) := hd 2 (by kernel_rfl)
      have d7 : u 22 = .int .i64 (rv : Int) := hd 7 (by kernel_rfl)
      clear hd
      simp only [overlay, List.setIfInBounds_toArray, List.set, d2, d7] at hK ⊢
      go_wp2_with fail
      exact hK _ _ X (Ext.refl _) kept_m hX rfl
  · exact mem_nil_m
  intro u w9 X hE hX hd
  have d0 : u 15 = .pointer (some ⟨w.heap.size, 1, none⟩) := hd 0 (by decide)
  have d1 : u 16 = .slice p1 s.length m1 := hd 1 (by decide)
  have d2 : u 17 = .int .i64 (s.length : Int) := hd 2 (by decide)
  have d3 : u 18 = .int .i64 k := hd 3 (by decide)
  have d4 : u 19 = .pointer (some ⟨w.heap.size, 1, none⟩) := hd 4 (by decide)
  have d5 : u 20 = .slice p1 s.length m1 := hd 5 (by decide)
  have d6 : u 21 = .int .i64 (s.length : Int) := hd 6 (by decide)
  have d7 : u 22 = .int .i64 (rv : Int) := hd 7 (by decide)
  have d8 : u 23 = .int .i64 (n : Int) := hd 8 (by decide)
  clear hd
  simp only [overlay, List.setIfInBounds_toArray, List.set, d0, d1, d2, d3, d4, d5, d6, d7, d8]
  have e9 : Ext w2 w9 := (Ext.refl w2).drew.trans hE
  clear d0 d1 d2 d3 d4 d5 d6 d7 d8
  clear hX hE
  clear u
  obtain ⟨wk2, rfl⟩ : ∃ wx : World, wx = w9 := ⟨_, rfl⟩
  replace HBx := Lib.hid (HBx.out.ext e9)
  replace HE := Lib.hid (HE.out.trans (e9))
  clear e9
  go_wp2_with fail
  refine OnlyN.mk ?_
  obtain ⟨s0, s1, s2, s3⟩ := HBx.out.cell
  go_wp2_with fail
  refine (HS1.out _ HE.out).mono ?_
  rintro e w9 ⟨rfl, rfl⟩
  go_wp2_with fail
  refine (HS2.out _ HE.out).mono ?_
  rintro e w9 ⟨rfl, rfl⟩
  go_wp2_with fail
  clear s0 s1 s2 s3
  have HV4 := Lib.hid (show fv = (List.range cn).map (fun i : Nat => partV (.mk kx s nx ix) (i * zn) zn dn) from HV3.out)
  have hdl := HDL.out
  have hld : ln = dn.length := hdl.symm
  subst hld
  have hxx := HX.out
  unfold ArrAt at hxx
  obtain ⟨_, _, _, ⟨_, _, e2, _, j2⟩, ⟨_, _, e3, _, j3⟩⟩ := hxx
  cases e2
  cases e3
  have HN := Lib.hid j2
  have HI := Lib.hid j3
  clear j2 j3
  clear HV3 hdl HDL
  go_loopw [8, 9] (fun ov iv wr => ∃ (i : Nat) (p : Option Addr) (c : Nat), ov = .slice p i c ∧ iv = .int .i64 (i : Int) ∧ i ≤ cn ∧ OwnA wk2.heap.size (fun _ => False) wr (.slice p i c) i ((List.range i).map (fun i : Nat => partV (.mk kx s nx ix) (i * zn) zn dn)) ∧ Ext wk2 wr) (fun _ iv _ => cn - (intOf iv).toNat)
  case atStart => exact ⟨0, _, _, rfl, rfl, Nat.zero_le _, OwnA.nil _ _ _, Ext.refl _⟩
  case round =>
    obtain ⟨i, p, c, rfl, rfl, hic, hO, hE0⟩ := hrel
    by_cases hlt : i < cn
    rotate_left
    · have hie : i = cn := by omega
      subst hie
      go_wp2_with fail
      go_ret
      obtain ⟨p9, c9, hv9, hk9, hi9⟩ := hO.items (by omega)
      have hE9 := HE.out.trans hE0
      refine ⟨_, rfl, ?_, hE9⟩
      rw [HV4.out, hv9]
      exact ⟨p9, c9, rfl, hk9, ItemsAt.mono (fun b hb _ => ⟨Nat.le_trans HE.out.lt hb.1, rfl⟩) _ _ _ hi9⟩
    · have hmul : i * zn ≤ 65536 * 65536 := Nat.mul_le_mul (by omega) hz6
      have hle : i * zn + zn ≤ cn * zn := by
        have := Nat.mul_le_mul_right zn (show i + 1 ≤ cn from hlt)
        rwa [Nat.succ_mul] at this
      have HNC2 := Lib.hid (fun h => Nat.le_trans hle (Nat.le_of_eq (HNC.out h).symm))
      have HIC2 := Lib.hid (fun h => Nat.le_trans hle (Nat.le_of_eq (HIC.out h).symm))
      have hwm : IntKind.i64.wrap ((i : Int) * (zn : Int)) = ((i * zn : Nat) : Int) := by rw [← Int.natCast_mul, IntWalk.i64_in _ (by omega)]
      have hpv : partV (.mk kx s nx ix) (i * zn) zn dn = .mk kx dn (if kx = 3 then [] else (nx.drop (i * zn)).take zn) (if kx = 3 then (ix.drop (i * zn)).take zn else []) := rfl
      have HPV := Lib.hid hpv
      clear hpv hle
      generalize hia : i * zn = a at *
      have HIA := Lib.hid hia
      clear hia
      obtain ⟨e, he⟩ : ∃ e, e = a + zn := ⟨_, rfl⟩
      have hwa : IntKind.i64.wrap ((a : Int) + (zn : Int)) = (e : Int) := by rw [show (a : Int) + (zn : Int) = (e : Int) by omega]; exact IntWalk.i64_in _ (by omega)
      obtain ⟨wo, rfl⟩ : ∃ wx : World, wx = wr := ⟨_, rfl⟩
      have HE0 := Lib.hid hE0
      go_wp2_with fail
      refine wp_region_x1 [MProp.is (.pointer (some ⟨w.heap.size, 0, none⟩)), MProp.is (.int .i64 kx), MProp.row wo.heap.size 0 [], MProp.is (.pointer (some ⟨w.heap.size, 1, none⟩)), MProp.is (.slice p1 s.length m1), MProp.is (.int .i64 (n : Int)), MProp.is (.slice pd dn.length md), MProp.own wo.heap.size dn, MProp.ownAgg wo.heap.size kx dn, MProp.box] [0, 1, 2, 3, 4, 5, 6, 7, 8, 9] [] [39, 40, 41, 42, 43, 44, 45, 46, 47, 10] 10 (by kernel_rfl) (by kernel_rfl) (by kernel_rfl) rfl ?_ ?_ ?_
      · refine mem_cons_m ?_ (mem_cons_m ?_ (mem_cons_m ?_ (mem_cons_m ?_ (mem_cons_m ?_ (mem_cons_m ?_ (mem_cons_m ?_ (mem_cons_m ?_ (mem_cons_m ?_ (mem_cons_m ?_ (mem_nil_m))))))))))
        · refine ⟨_, 39, rfl, by kernel_rfl, ?_⟩
          intro u w9 X hE hX hd K hK
          clear hd
          simp only [overlay, List.setIfInBounds_toArray, List.set] at hK ⊢
          go_wp2_with fail
          exact hK _ _ X (Ext.refl _) kept_m hX rfl
        · refine ⟨_, 40, rfl, by kernel_rfl, ?_⟩
          intro u w9 X hE hX hd K hK
          have d0 : u 39 = .pointer (some ⟨w.heap.size, 0, none⟩) := hd 0 (by kernel_rfl)
          clear hd
          simp only [overlay, List.setIfInBounds_toArray, List.set, d0] at hK ⊢
          obtain ⟨s0, s1, s2, s3⟩ := (HBx.out.ext (hE0.trans ((Ext.refl wo).drew.trans hE))).cell
          go_wp2_with fail
          exact hK _ _ X (Ext.refl _) kept_m hX rfl
        · refine ⟨_, 41, rfl, by kernel_rfl, ?_⟩
          intro u w9 X hE hX hd K hK
          clear hd
          simp only [overlay, List.setIfInBounds_toArray, List.set] at hK ⊢
          have hlt' : wo.heap.size ≤ w9.heap.size := hE.lt
          go_wp2_with fail
          exact hK _ _ X ((Ext.refl _).alloc _) kept_m (hX.ext ((Ext.refl _).alloc _)) ⟨_, rfl, rowI_new' w9 [], hlt', fun hx => by have := (hX _ hx).2; omega⟩
        · refine ⟨_, 42, rfl, by kernel_rfl, ?_⟩
          intro u w9 X hE hX hd K hK
          clear hd
          simp only [overlay, List.setIfInBounds_toArray, List.set] at hK ⊢
          go_wp2_with fail
          exact hK _ _ X (Ext.refl _) kept_m hX rfl
        · refine ⟨_, 43, rfl, by kernel_rfl, ?_⟩
          intro u w9 X hE hX hd K hK
          have d3 : u 42 = .pointer (some ⟨w.heap.size, 1, none⟩) := hd 3 (by kernel_rfl)
          clear hd
          simp only [overlay, List.setIfInBounds_toArray, List.set, d3] at hK ⊢
          obtain ⟨s0, s1, s2, s3⟩ := (HBx.out.ext (hE0.trans ((Ext.refl wo).drew.trans hE))).cell
          go_wp2_with fail
          exact hK _ _ X (Ext.refl _) kept_m hX rfl
        · refine ⟨_, 44, rfl, by kernel_rfl, ?_⟩
          intro u w9 X hE hX hd K hK
          clear hd
          simp only [overlay, List.setIfInBounds_toArray, List.set] at hK ⊢
          go_wp2_with fail
          exact hK _ _ X (Ext.refl _) kept_m hX rfl
        · refine ⟨_, 45, rfl, by kernel_rfl, ?_⟩
          intro u w9 X hE hX hd K hK
          have d4 : u 43 = .slice p1 s.length m1 := hd 4 (by kernel_rfl)
          have d5 : u 44 = .int .i64 (n : Int) := hd 5 (by kernel_rfl)
          clear hd
          simp only [overlay, List.setIfInBounds_toArray, List.set, d4, d5] at hK ⊢
          go_wp2_with fail
          exact hK _ _ X (Ext.refl _) kept_m hX rfl
        · refine ⟨_, 46, rfl, by kernel_rfl, ?_⟩
          intro u w9 X hE hX hd K hK
          have d2 : ∃ g, u 41 = .slice (some ⟨g, 0, none⟩) 0 0 ∧ RowI w9 g [] ∧ wo.heap.size ≤ g ∧ ¬ X g := hd 2 (by kernel_rfl)
          have d6 : u 45 = .slice pd dn.length md := hd 6 (by kernel_rfl)
          clear hd
          simp only [overlay, List.setIfInBounds_toArray, List.set, d6] at hK ⊢
          obtain ⟨g9, hv2, hr2, hb2, hx2⟩ := d2
          simp only [hv2] at hK ⊢
          have hlt' : wo.heap.size ≤ w9.heap.size := hE.lt
          refine wpList_append_zero rfl _ _ rfl F wo.heap.size X g9 pd md dn rfl hr2 hb2 hx2 rfl (HCD.out.ext (HE.out.trans (hE0.trans ((Ext.refl wo).drew.trans hE)))) (fun b hb => (hX b hb).2) (by omega) hlt' ?_
          intro v' w' hO9 hE'
          obtain ⟨pv, cv, rfl, hcv⟩ := hO9.form
          exact hK _ _ X hE' kept_m (hX.ext hE') ⟨pv, cv, rfl, hO9⟩
        · refine ⟨_, 47, rfl, by kernel_rfl, ?_⟩
          intro u w9 X hE hX hd K hK
          have d1 : u 40 = .int .i64 kx := hd 1 (by kernel_rfl)
          have d7 : ∃ p c, u 46 = .slice p dn.length c ∧ OwnI wo.heap.size X w9 (.slice p dn.length c) dn.length dn := hd 7 (by kernel_rfl)
          clear hd
          simp only [overlay, List.setIfInBounds_toArray, List.set, d1] at hK ⊢
          obtain ⟨pv, cv, hv7, hO7⟩ := d7
          simp only [hv7] at hK ⊢
          go_wp2_with fail
          exact hK _ _ X (Ext.refl _) kept_m hX ⟨pv, cv, rfl, hO7⟩
        · refine ⟨_, 10, rfl, by kernel_rfl, ?_⟩
          intro u w9 X hE hX hd K hK
          clear hd
          simp only [overlay, List.setIfInBounds_toArray, List.set] at hK ⊢
          go_wp2_with fail
          exact hK _ _ (fun b => X b ∨ b = w9.heap.size) ((Ext.refl _).alloc _) added_m (hX.add hE _) ⟨_, rfl, box_new _ _ _ _ _, .inr rfl⟩
      · exact mem_nil_m
      intro u w9 X hE hX hd
      have d0 : u 39 = .pointer (some ⟨w.heap.size, 0, none⟩) := hd 0 (by decide)
      have d1 : u 40 = .int .i64 kx := hd 1 (by decide)
      have d2 : ∃ g, u 41 = .slice (some ⟨g, 0, none⟩) 0 0 ∧ RowI w9 g [] ∧ wo.heap.size ≤ g ∧ ¬ X g := hd 2 (by decide)
      have d3 : u 42 = .pointer (some ⟨w.heap.size, 1, none⟩) := hd 3 (by decide)
      have d4 : u 43 = .slice p1 s.length m1 := hd 4 (by decide)
      have d5 : u 44 = .int .i64 (n : Int) := hd 5 (by decide)
      have d6 : u 45 = .slice pd dn.length md := hd 6 (by decide)
      have d7 : ∃ p c, u 46 = .slice p dn.length c ∧ OwnI wo.heap.size X w9 (.slice p dn.length c) dn.length dn := hd 7 (by decide)
      have d8 : ∃ p c, u 47 = .agg #[.int .i64 kx, .slice p dn.length c, .slice none 0 0, .slice none 0 0] ∧ OwnI wo.heap.size X w9 (.slice p dn.length c) dn.length dn := hd 8 (by decide)
      have d9 : ∃ b, u 10 = .pointer (some ⟨b, 0, none⟩) ∧ Box4 w9 b (.int .i64 0) (.slice none 0 0) (.slice none 0 0) (.slice none 0 0) ∧ X b := hd 9 (by decide)
      clear hd
      simp only [overlay, List.setIfInBounds_toArray, List.set, d0, d1, d3, d4, d5, d6]
      obtain ⟨bo, hvb, hbox, hxb⟩ := d9
      obtain ⟨ps, cs, hva, hOs⟩ := d8
      have hbo := hX bo hxb
      simp only [hvb, hva]
      obtain ⟨q0, q1, q2, q3⟩ := hbox.cell
      have f0 := hbox.free 0
      have f1 := hbox.free 1
      have f2 := hbox.free 2
      have f3 := hbox.free 3
      clear d0 d1 d2 d3 d4 d5 d6 d7
      have e9 := (Ext.refl wo).drew.trans hE
      obtain ⟨gg1, gg2, gg3⟩ := hbox.put4 e9 hbo.1 (.int .i64 kx) (.slice ps dn.length cs) (.slice none 0 0) (.slice none 0 0)
      have hOs2 := hOs.same (Y := fun x => x = bo) (w' := (((w9.setCell ⟨bo, 0, none⟩ (.int .i64 kx)).setCell ⟨bo, 1, none⟩ (.slice ps dn.length cs)).setCell ⟨bo, 2, none⟩ (.slice none 0 0)).setCell ⟨bo, 3, none⟩ (.slice none 0 0)) (fun q _ _ hne => ⟨gg3 q (fun e => hne (by rw [e]; exact hxb)), fun e => hne (by rw [e]; exact hxb)⟩)
      have HGG := Lib.hid (And.intro gg1 (And.intro gg2 hOs2))
      have hbl := hbo.1
      have HBL := Lib.hid (show wo.heap.size ≤ bo from hbl)
      clear gg1 gg2 gg3 hOs2 hOs hbox hbo hbl e9 hX hE
      generalize u 41 = t41 at *
      generalize u 46 = t46 at *
      clear hvb hva
      clear u
      go_wp2_with fail
      refine OnlyN.mk ?_
      obtain ⟨gg1, gg2, hOs⟩ := HGG.out
      clear HGG q0 q1 q2 q3 f0 f1 f2 f3
      generalize (((w9.setCell ⟨bo, 0, none⟩ (.int .i64 kx)).setCell ⟨bo, 1, none⟩ (.slice ps dn.length cs)).setCell ⟨bo, 2, none⟩ (.slice none 0 0)).setCell ⟨bo, 3, none⟩ (.slice none 0 0) = w5 at *
      have hM0 : MkB wo w5 (fun x => x < w5.heap.size ∧ wo.heap.size ≤ x) bo kx (.slice ps dn.length cs) (.slice none 0 0) (.slice none 0 0) [] [] := MkB.fresh gg1 HBL.out gg2 ⟨gg2.lt, HBL.out⟩ (fun x hx => hx.1)
      have HM0 := Lib.hid hM0
      have HOS := Lib.hid hOs
      clear gg1 gg2 hOs hM0
      go_wp2_with fail
      go_loopw [11] (fun jv wr => ∃ (q : Nat) (n' : List Int) (l' : List Arr) (v2 v3 : Value), jv = .int .i64 (q : Int) ∧ a ≤ q ∧ q ≤ e ∧ n'.length ≤ q - a ∧ l'.length ≤ q - a ∧ MkB wo wr (fun x => x < w5.heap.size ∧ wo.heap.size ≤ x) bo kx (.slice ps dn.length cs) v2 v3 n' l' ∧
        (∀ q, wo.heap.size ≤ q → q < w5.heap.size → q ≠ bo → wr.heap[q]? = w5.heap[q]?) ∧
        Hid (n' = if kx = 3 then [] else (nx.drop a).take (q - a)) ∧ Hid (l' = if kx = 3 then (ix.drop a).take (q - a) else [])) (fun jv _ => e - (intOf jv).toNat)
      case atStart => exact ⟨a, [], [], _, _, by go_num, Nat.le_refl _, by omega, Nat.zero_le _, Nat.zero_le _, HM0.out, fun _ _ _ _ => rfl, by simp [Hid], by simp [Hid]⟩
      case round =>
        obtain ⟨q, n', l', v2, v3, rfl, haq, hj, hn1, hl1, hM, hkeep, HGN, HGI⟩ := hrel
        have hkp : ∀ q, wo.heap.size ≤ q → q < w5.heap.size → q ≠ bo → wr.heap[q]? = w5.heap[q]? := hkeep
        have HKP := Lib.hid hkp
        clear hkp hkeep HM0
        by_cases hjz : q < e
        rotate_left
        · have hje : q - a = zn := by omega
          have hgn := HGN.out
          have hgi := HGI.out
          rw [hje] at hgn hgi
          obtain ⟨pa, ca, hv2, _, _⟩ := hM.on.ints
          subst hv2
          obtain ⟨pb, cb, hv3, _, _⟩ := hM.oi.items (by omega)
          subst hv3
          obtain ⟨pz, cz, hvz, hkz, hiz⟩ := HOS.out.ints
          simp only [Value.slice.injEq] at hvz
          obtain ⟨rfl, _, rfl⟩ := hvz
          have hA := MkB.arr (G := fun b => wo.heap.size ≤ b) hM hkx ⟨ps, cs, rfl, hkz, hiz.mono fun b hb hlt => ⟨hb.1, HKP.out b hb.1 hlt hb.2⟩⟩ (by omega)
          have hPe : Arr.mk kx dn n' l' = partV (.mk kx s nx ix) (i * zn) zn dn := by rw [HIA.out, HPV.out, ← hgn, ← hgi]
          rw [hPe] at hA
          have hA2 := ArrAt.mono (G := Apart wk2.heap.size (fun _ => False) (.slice p i c)) (fun q hq _ => ⟨hO.apart0 HE0.out.lt q (by rcases hq with hq | hq; exact hq.1; exact hq), rfl⟩) _ _ _ _ _ hA
          have hEm := hM.ext
          have HA2 := Lib.hid hA2
          have HO2 := Lib.hid (hO.ext hEm)
          have hE1 := HE0.out.trans hEm
          have HE1 := Lib.hid hE1
          obtain ⟨q0, q1, q2, q3⟩ := hM.box.cell
          clear hA hA2 hPe hM HGN HGI hgn hgi hje hiz hE1 hEm hO
          have hYb := box_new wr (.int .i64 kx) (.slice ps dn.length cs) (.slice pa n'.length ca) (.slice pb l'.length cb)
          have HYB := Lib.hid hYb
          clear hYb
          go_wp2_with (at_builtin; refine wpList_append_arr rfl _ _ rfl wk2.heap.size (fun _ => False) _ i _ _ _ _ _ _ rfl (HO2.out.ext ((Ext.refl _).alloc _)) _ _ rfl HYB.out (fun _ h => h.elim) (HA2.out.ext ((Ext.refl _).alloc _)) (by omega) (HE1.out.alloc _).lt ?_)
          intro gb cap w8 hon8 hgrow hat8 _ hgb
          have hS8 : Ext wk2 w8 := (HE1.out.alloc _).grown hgrow (HE1.out.alloc _).lt (fun q e => (HO2.out.lt q e).1)
          clear q0 q1 q2 q3 hgrow hat8 HYB
          go_wp2_with fail
          go_roundw
          case rel => exact ⟨i + 1, _, _, rfl, by go_num, by omega, by rw [List.range_succ, List.map_append]; exact hon8, hS8⟩
          case measure => simp [intOf]; omega
        · have hE5 := HE0.out
          obtain ⟨sb0, sb1, sb2, sb3⟩ := (HBx.out.ext hE5).cell
          obtain ⟨s0, s1, s2, s3⟩ := (HBx.out.ext (hE5.trans hM.ext)).cell
          have HXL := Lib.hid hM.xl
          have hM2 := hM
          obtain ⟨ob0, ob1, ob2, ob3⟩ := hM2.box.cell
          clear hM
          by_cases hk3 : (kx == 3) = true
          · have hk' : kx = 3 := by simpa using hk3
            have hbi : q < ix.length := by have := HIC2.out hk'; omega
            obtain ⟨bi, off, k0, k1, k2, k3, hq3, hbv, g0, g1, g2, g3, hx⟩ := ItemsAt.get ix _ 0 q (HI.out.ext (HE.out.trans hE5)) hbi
            rw [Nat.zero_add] at g0 g1 g2 g3
            subst hq3
            have HGI2 : Hid (l' ++ [ix[q]] = if kx = 3 then (ix.drop a).take (q + 1 - a) else []) := by
              show _ = _
              have h := HGI.out
              rw [if_pos hk'] at h
              rw [if_pos hk', h, take_drop_at ix a q haq hbi]
            have HGN2 : Hid (n' = if kx = 3 then [] else (nx.drop a).take (q + 1 - a)) := by
              show _ = _
              have h := HGN.out
              rw [if_pos hk'] at h ⊢
              exact h
            generalize ix[q] = x at *
            obtain ⟨yk, pp1, ll1, uu1, pp2, ll2, uu2, pp3, ll3, uu3, rfl, rfl, rfl, rfl⟩ := hx.form
            clear HGN HGI hk'
            go_wp2_with fail
            clear s0 s1 s2 s3 ob0 ob1 ob2 ob3
            have hS0 : Ext wo wr.drew ∧ wr.drew.cell? ⟨bo, 3, none⟩ = some v3 := ⟨hM2.ext.drew, hM2.box.cell.2.2.2⟩
            refine wp_region_g [0, 1, 2, 3, 4, 5, 6] [7, 8, 9, 10, 11] (fun w' => Ext wo w' ∧ w'.cell? ⟨bo, 3, none⟩ = some v3) (by kernel_rfl) (by kernel_rfl) hS0 ?_
            iterate 7
              refine wpHead_cons (v := ?_) rfl (by rfl) (fun w' hS => ?_) ?_
              rotate_left
              · obtain ⟨hS1, hS2⟩ := hS
                have e0 := hS1.cell sb0
                have e1 := hS1.cell sb1
                have e2 := hS1.cell sb2
                have e3 := hS1.cell sb3
                have e4 := hS1.cell g0
                have e5 := hS1.cell g1
                have e6 := hS1.cell g2
                have e7 := hS1.cell g3
                go_simp
                try with_reducible rfl
              try simp only [Act.put, List.setIfInBounds_toArray, List.set]
            unfold wpHead
            refine wpTail_cons rfl (fun K hK => ?_)
            clear sb0 sb1 sb2 sb3 g0 g1 g2 g3
            go_wp2_with fail
            refine (rclone_any (SizeOf.sizeOf x + 1) F x _ _ _ _ _ (by omega) (hx.ext hS0.1)).mono ?_
            rintro e w3 ⟨y0', y1', y2', y3', rfl, hy', hE3⟩
            have hEr : Ext wr w3 := Ext.trans ((Ext.refl _).drew) hE3
            have hM3 := hM2.next hEr
            have hS3 : Ext wo w3 ∧ w3.cell? ⟨bo, 3, none⟩ = some v3 := ⟨hM3.ext, hM3.box.cell.2.2.2⟩
            go_wp2_with fail
            refine hK _ _ hS3 ?_
            try simp only [Act.put, List.setIfInBounds_toArray, List.set]
            refine wpTail_cons rfl (fun K hK => ?_)
            have hY := ArrAt.mono (G := Apart wo.heap.size (fun x => (fun x => x < w5.heap.size ∧ wo.heap.size ≤ x) x ∨ v2.ownBlock = some x) v3) (w' := w3) (fun q hq _ => ⟨hM2.apart q hq, rfl⟩) _ _ _ _ _ hy'
            obtain ⟨yk, pq1, mm1, n1, pq2, mm2, n2, pq3, mm3, n3, rfl, rfl, rfl, rfl⟩ := hY.form
            clear hx hy' hE3 hM2 hS0
            go_wp2_with fail
            have hEn : Ext wr (w3.alloc (.cells #[.int .i64 yk, .slice pq1 mm1 n1, .slice pq2 mm2 n2, .slice pq3 mm3 n3] 26)) := hEr.alloc _
            have hM4 := hM3.next ((Ext.refl _).alloc (.cells #[.int .i64 yk, .slice pq1 mm1 n1, .slice pq2 mm2 n2, .slice pq3 mm3 n3] 26))
            have hbx4 := box_new w3 (.int .i64 yk) (.slice pq1 mm1 n1) (.slice pq2 mm2 n2) (.slice pq3 mm3 n3)
            have hY4 := hY.ext ((Ext.refl _).alloc (.cells #[.int .i64 yk, .slice pq1 mm1 n1, .slice pq2 mm2 n2, .slice pq3 mm3 n3] 26))
            generalize w3.alloc (.cells #[.int .i64 yk, .slice pq1 mm1 n1, .slice pq2 mm2 n2, .slice pq3 mm3 n3] 26) = w4' at *
            refine hK _ _ ⟨hM4.ext, hM4.box.cell.2.2.2⟩ ?_
            try simp only [Act.put, List.setIfInBounds_toArray, List.set]
            refine wpTail_cons rfl (fun K hK => ?_)
            refine wpList_append_arr rfl _ _ rfl wo.heap.size _ v3 l'.length l' x _ _ _ _ rfl hM4.oi _ _ rfl hbx4 hM4.xl3 hY4 (by omega) hM4.ext.lt ?_
            intro g cap w8 hon8 hgrow hat8 _ _
            obtain ⟨q1, q2, q3⟩ := hM4.grownI hgrow
            obtain ⟨_, _, _, t3⟩ := q2.cell
            have tf := q2.free 3
            obtain ⟨hM8, hfar⟩ := hM4.storedI (l' := l' ++ [x]) hgrow (by simp) hon8 (by simpa using hat8)
            refine hK _ _ ⟨q1, t3⟩ ?_
            try simp only [Act.put, List.setIfInBounds_toArray, List.set]
            refine wpTail_free2 rfl rfl (by kernel_rfl) ?_
            clear hM3 hM4 hbx4 hY4 hY hon8 hgrow hat8 q1 q2 q3 hS3 hEr
            go_wp2_with fail
            refine OnlyN.mk ?_
            have hkeep2 : ∀ q, wo.heap.size ≤ q → q < w5.heap.size → q ≠ bo → (w8.setCell ⟨bo, 3, none⟩ (.slice (some ⟨g, 0, none⟩) (l'.length + 1) cap)).heap[q]? = w5.heap[q]? := fun q a1 a2 a3 => ((hfar q ⟨a2, a1⟩ a3).trans (hEn.block (HXL.out q ⟨a2, a1⟩))).trans (HKP.out q a1 a2 a3)
            revert hM8 hkeep2
            generalize w8.setCell ⟨bo, 3, none⟩ (.slice (some ⟨g, 0, none⟩) (l'.length + 1) cap) = wk
            intro hM8 hkeep2
            clear hfar t3 tf
            (try simp only [Exit.inBlock, Exit.then])
            go_wp2_with fail
            go_roundw
            case rel => exact ⟨q + 1, n', l' ++ [x], _, _, by go_num, by omega, by omega, by omega, by simp; omega, hM8, hkeep2, HGN2.out, HGI2.out⟩
            case measure => simp [intOf]; omega
          · have hk' : kx ≠ 3 := by simpa using hk3
            have hk3' := Bool.eq_false_iff.2 hk3
            have hbi : q < nx.length := by have := HNC2.out hk'; omega
            obtain ⟨bv, ov, rfl, av, av1, av2⟩ := (HN.out.ext (HE.out.trans hE5)).get hbi
            have HGN2 : Hid (n' ++ [nx.getD q 0] = if kx = 3 then [] else (nx.drop a).take (q + 1 - a)) := by
              show _ = _
              have h := HGN.out
              rw [if_neg hk'] at h
              rw [if_neg hk', h, take_drop_at nx a q haq hbi]
              simp [List.getD, hbi]
            have HGI2 : Hid (l' = if kx = 3 then (ix.drop a).take (q + 1 - a) else []) := by
              show _ = _
              have h := HGI.out
              rw [if_neg hk'] at h ⊢
              exact h
            generalize nx.getD q 0 = xv at *
            clear HGN HGI hk' hk3
            go_wp2_with fail
            clear s0 s1 s2 s3 ob0 ob1 ob2 ob3
            have hS0 : Ext wo wr.drew ∧ wr.drew.cell? ⟨bo, 2, none⟩ = some v2 := ⟨hM2.ext.drew, hM2.box.cell.2.2.1⟩
            refine wp_region_g [0, 1, 2, 3, 4, 5, 6] [7, 8, 9, 10] (fun w' => Ext wo w' ∧ w'.cell? ⟨bo, 2, none⟩ = some v2) (by kernel_rfl) (by kernel_rfl) hS0 ?_
            iterate 7
              refine wpHead_cons (v := ?_) rfl (by rfl) (fun w' hS => ?_) ?_
              rotate_left
              · obtain ⟨hS1, hS2⟩ := hS
                have e0 := hS1.cell sb0
                have e1 := hS1.cell sb1
                have e2 := hS1.cell sb2
                have e3 := hS1.cell sb3
                have e4 := hS1.cell av
                go_simp
                try with_reducible rfl
              try simp only [Act.put, List.setIfInBounds_toArray, List.set]
            unfold wpHead
            refine wpTail_cons rfl (fun K hK => ?_)
            clear sb0 sb1 sb2 sb3 av
            go_wp2_with fail
            have hEn : Ext wr (wr.alloc (.cells #[.int .i64 xv] 3)).drew := ((Ext.refl _).alloc _).drew
            have hnc : (wr.alloc (.cells #[.int .i64 xv] 3)).drew.cell? ⟨wr.heap.size, 0, none⟩ = some (.int .i64 xv) := by simp
            generalize (wr.alloc (.cells #[.int .i64 xv] 3)).drew = w7 at hEn hnc ⊢
            have hM7 := hM2.next hEn
            refine hK _ _ ⟨hM7.ext, hM7.box.cell.2.2.1⟩ ?_
            try simp only [Act.put, List.setIfInBounds_toArray, List.set]
            refine wpTail_cons rfl (fun K hK => ?_)
            refine wpList_append_int rfl _ _ rfl wo.heap.size _ v2 n'.length n' xv rfl hM7.on ⟨wr.heap.size, 0, none⟩ 1 rfl hnc hM7.xl2 ⟨av1, av2⟩ (by omega) hM7.ext.lt ?_
            intro g cap w8 hon8 hgrow hat8 _ _
            obtain ⟨q1, q2, q3⟩ := hM7.grownN hgrow
            obtain ⟨_, _, t2, _⟩ := q2.cell
            have tf := q2.free 2
            obtain ⟨hM8, hfar⟩ := hM7.storedN (n' := n' ++ [xv]) hgrow (by simp) hon8 (by simpa using hat8)
            refine hK _ _ ⟨q1, t2⟩ ?_
            try simp only [Act.put, List.setIfInBounds_toArray, List.set]
            refine wpTail_free2 rfl rfl (by kernel_rfl) ?_
            clear hM7 hon8 hgrow hat8 q1 q2 q3 hS0 hM2 hnc
            go_wp2_with fail
            refine OnlyN.mk ?_
            have hkeep2 : ∀ q, wo.heap.size ≤ q → q < w5.heap.size → q ≠ bo → (w8.setCell ⟨bo, 2, none⟩ (.slice (some ⟨g, 0, none⟩) (n'.length + 1) cap)).heap[q]? = w5.heap[q]? := fun q a1 a2 a3 => ((hfar q ⟨a2, a1⟩ a3).trans (hEn.block (HXL.out q ⟨a2, a1⟩))).trans (HKP.out q a1 a2 a3)
            revert hM8 hkeep2
            generalize w8.setCell ⟨bo, 2, none⟩ (.slice (some ⟨g, 0, none⟩) (n'.length + 1) cap) = wk
            intro hM8 hkeep2
            clear hfar t2 tf
            (try simp only [Exit.inBlock, Exit.then])
            go_wp2_with fail
            go_roundw
            case rel => exact ⟨q + 1, n' ++ [xv], l', _, _, by go_num, by omega, by omega, by simp; omega, by omega, hM8, hkeep2, HGN2.out, HGI2.out⟩
            case measure => simp [intOf]; omega

end Go.Proofs.Ytgeppialbkijiaa
