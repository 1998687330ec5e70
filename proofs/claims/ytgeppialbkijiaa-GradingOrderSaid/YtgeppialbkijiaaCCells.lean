/-
  THE WALK of cell.Cells. (Printed by gen_ccells.py.)
-/
import Derived.Test.YtgeppialbkijiaaCellP
namespace Go.Proofs.Ytgeppialbkijiaa
set_option linter.unusedSimpArgs false
set_option linter.unusedVariables false
open Go.RowKit

def cellsV (x : Arr) (k : Int) : List Arr := match x with
  | .mk kx s n it => if rightV (.mk kx s n it) ≠ 0 then [] else
    (List.range (shapeSize (s.take (s.length - (rankV k s.length).toNat))).toNat).map fun i =>
      partV (.mk kx s n it) (i * (shapeSize (s.drop (s.length - (rankV k s.length).toNat))).toNat) (shapeSize (s.drop (s.length - (rankV k s.length).toNat))).toNat (s.drop (s.length - (rankV k s.length).toNat))
/-- Some slice, in new blocks, that reads as the list of arrays. -/
def RdAA (B : Nat) (w : World) (l : List Arr) (v : Value) : Prop := ∃ (p : Option Addr) (c : Nat), v = .slice p l.length c ∧ ItOk l.length c ∧ ItemsAt (fun b => B ≤ b) w p 0 l

theorem run_make_arrs (n : Nat) (hn : n ≤ 65536) (w : World) : (Instr.makeSlice 24 (.int .i64 0) (.int .i64 (n : Int))).run Try.prog w = .ok (.slice (some ⟨w.heap.size, 0, none⟩) 0 n) (w.alloc (.cells (madeCells #[.int .i64 0, .slice none 0 0, .slice none 0 0, .slice none 0 0] (n * 4)) 26)) := by
  obtain ⟨i0, hi, hz0, hz1, hz2⟩ := info_parts infoA
  have := run_make (P := Try.prog) w 24 26 i0 _ Try.underlying24 hi hz0 .i64 .i64 0 n (by omega) (by omega) (by rw [hz2]; omega) (by omega)
  rw [hz1] at this
  simpa [Value.cells] using this
theorem OwnA.made (X : Nat → Prop) (w : World) (n : Nat) (hn : n ≤ 65536) (hX : ¬ X w.heap.size) : OwnA w.heap.size X (w.alloc (.cells (madeCells #[.int .i64 0, .slice none 0 0, .slice none 0 0, .slice none 0 0] (n * 4)) 26)) (.slice (some ⟨w.heap.size, 0, none⟩) 0 n) 0 [] := by
  refine ⟨rfl, fun g hg => ?_, [], ⟨by simp, .inr ⟨w.heap.size, n, _, rfl, Nat.le_refl _, heap_alloc_new _ _, Nat.zero_le _, by unfold maxLen; omega, by simp [madeCells], by simp⟩⟩, by unfold CellsRead; trivial⟩
  simp only [Value.ownBlock, Option.some.injEq] at hg
  rw [← hg]; exact hX

theorem OwnA.lt {B : Nat} {X : Nat → Prop} {w : World} {v : Value} {n : Nat} {l : List Arr} (h : OwnA B X w v n l) : ∀ g, v.ownBlock = some g → B ≤ g ∧ g < w.heap.size := by
  obtain ⟨_, _, cells, h1, _⟩ := h
  exact h1.lt
theorem OwnA.apart0 {B : Nat} {w : World} {v : Value} {n : Nat} {l : List Arr} (h : OwnA B (fun _ => False) w v n l) (hB : B ≤ w.heap.size) (q : Nat) (hq : w.heap.size ≤ q) : Apart B (fun _ => False) v q :=
  ⟨Nat.le_trans hB hq, fun h => h, fun e => by have := (h.lt q e).2; omega⟩
set_option maxRecDepth 100000 in
set_option maxHeartbeats 4000000 in
theorem ccells_any (F : Nat → Prop) (x : Arr) (c0 c1 c2 c3 : Value) (k : Int) (w : World) (hx : ArrAt F w x c0 c1 c2 c3) (hk : -9223372036854775808 ≤ k ∧ k ≤ 9223372036854775807) :
    Calls Try.prog 107 #[.agg #[c0, c1, c2, c3], .int .i64 k] w fun e w' => ∃ v, e = .returned v ∧ RdAA w.heap.size w' (cellsV x k) v ∧ Ext w w' := by
  obtain ⟨kx, s, nx, ix⟩ := x
  have hx' := hx
  unfold ArrAt at hx'
  obtain ⟨rfl, hkx, ⟨p1, m1, rfl, ⟨o1, o1', o1''⟩, i1⟩, ⟨p2, m2, rfl, ⟨o2, o2', o2''⟩, i2⟩, ⟨p3, m3, rfl, ⟨o3, o3', o3''⟩, i3⟩⟩ := hx'
  have HX := Lib.hid hx
  have HS := Lib.hid i1
  clear hx i1 i2 i3
  have HV : Hid (cellsV (.mk kx s nx ix) k = if rightV (.mk kx s nx ix) ≠ 0 then [] else
    (List.range (shapeSize (s.take (s.length - (rankV k s.length).toNat))).toNat).map fun i =>
      partV (.mk kx s nx ix) (i * (shapeSize (s.drop (s.length - (rankV k s.length).toNat))).toNat) (shapeSize (s.drop (s.length - (rankV k s.length).toNat))).toNat (s.drop (s.length - (rankV k s.length).toNat))) := rfl
  generalize cellsV (.mk kx s nx ix) k = fv at *
  have HRP := Lib.hid (@right_parts kx s nx ix)
  go_enter Try.func107, Try.ntmps107
  have hE0 : Ext w (w.alloc (.cells #[.int .i64 kx, .slice p1 s.length m1, .slice p2 nx.length m2, .slice p3 ix.length m3] 26)) := (Ext.refl _).alloc _
  have hB := box_new w (.int .i64 kx) (.slice p1 s.length m1) (.slice p2 nx.length m2) (.slice p3 ix.length m3)
  have HR := Lib.hid (right_any F _ _ _ _ _ _ (HX.out.ext hE0))
  have HE := Lib.hid hE0
  have HB := Lib.hid hB
  clear hE0 hB
  go_wp2_with fail
  refine HR.out.mono ?_
  rintro e w2 ⟨rfl, hE1⟩
  replace HE := Lib.hid (HE.out.trans hE1)
  have HBx := Lib.hid (HB.out.ext hE1)
  clear HR HB hE1
  generalize rightV (.mk kx s nx ix) = r at *
  by_cases hr : r = 0
  rotate_left
  · have hr1 : (r != 0) = true := by simpa using hr
    have HV2 := Lib.hid (show fv = [] by rw [HV.out, if_pos hr])
    clear hr
    go_wp2_with fail
    go_ret
    refine ⟨_, rfl, ?_, HE.out⟩
    rw [HV2.out]
    exact ⟨none, 0, rfl, ⟨by simp, by simp, by simp⟩, by unfold ItemsAt; trivial⟩
  subst hr
  obtain ⟨_, h8, hrt, hn3, hi3⟩ := HRP.out rfl
  have hbd := rankV_bd k s.length (by omega)
  obtain ⟨rv, hrv⟩ : ∃ rv : Nat, rankV k s.length = rv := ⟨(rankV k s.length).toNat, by omega⟩
  rw [hrv] at hbd
  have HRK := Lib.hid (show ∀ w, Calls Try.prog 124 #[.int .i64 k, .int .i64 (s.length : Int)] w fun e w' => e = .returned (.int .i64 (rv : Int)) ∧ Ext w w' from fun w => by
    have h := crank_any k s.length w hk (by omega)
    rw [hrv] at h
    exact same_ext h)
  obtain ⟨n, hn⟩ : ∃ n, s.length - rv = n := ⟨_, rfl⟩
  obtain ⟨hsp, ht0, ht1, hd0, hd1⟩ := size_split hrt h8 n
  have HV2 := Lib.hid (show fv = (List.range (shapeSize (s.take n)).toNat).map fun i => partV (.mk kx s nx ix) (i * (shapeSize (s.drop n)).toNat) (shapeSize (s.drop n)).toNat (s.drop n) by rw [HV.out, if_neg (by simp), hrv, Int.toNat_natCast, hn])
  have hnl : n ≤ s.length := by omega
  have htl : (s.take n).length = n := by rw [List.length_take]; omega
  have hdl : (s.drop n).length = s.length - n := by rw [List.length_drop]
  have hct := HS.out.cut (n := n) 0 m1 o1
  rw [List.drop_zero] at hct
  have hcd := HS.out.cut (n := s.length - n) n m1 o1
  rw [List.take_of_length_le (by omega)] at hcd
  have hws : IntKind.i64.wrap ((s.length : Int) - (rv : Int)) = (n : Int) := by rw [show (s.length : Int) - (rv : Int) = (n : Int) by omega]; exact IntWalk.i64_in _ (by omega)
  have hrt1 := fun w => slice_h p1 s.length m1 w n (by omega)
  have hrd1 := fun w => slice_l p1 s.length m1 w n (by omega)
  generalize cutAt p1 0 m1 1 = pt at *
  generalize cutAt p1 n m1 1 = pd at *
  obtain ⟨ln, hln⟩ : ∃ ln, s.length - n = ln := ⟨_, rfl⟩
  obtain ⟨md, hmd⟩ : ∃ md, m1 - n = md := ⟨_, rfl⟩
  rw [hln] at hrd1 hdl
  rw [hmd] at hrd1
  have hlm : ln ≤ md ∧ md ≤ 9223372036854775807 ∧ ln ≤ 8 := by omega
  have hs1 := fun (w' : World) (e : Ext w w') => same_ext (size_any F pt m1 (s.take n) w' (hct.ext e) (by unfold lenMax; omega))
  have hs2 := fun (w' : World) (e : Ext w w') => same_ext (size_any F pd md (s.drop n) w' (hcd.ext e) (by unfold lenMax; omega))
  rw [htl] at hs1
  rw [hdl] at hs2
  generalize htn : s.take n = tn at *
  generalize hdn : s.drop n = dn at *
  obtain ⟨cn, hcn⟩ : ∃ cn : Nat, shapeSize tn = cn := ⟨(shapeSize tn).toNat, by omega⟩
  obtain ⟨zn, hzn⟩ : ∃ zn : Nat, shapeSize dn = zn := ⟨(shapeSize dn).toNat, by omega⟩
  rw [hcn] at hs1 hsp ht1
  rw [hzn] at hs2 hsp hd1
  have HV3 := Lib.hid (show fv = (List.range cn).map fun i => partV (.mk kx s nx ix) (i * zn) zn dn by rw [HV2.out, hcn, hzn, Int.toNat_natCast, Int.toNat_natCast])
  have HS1 := Lib.hid hs1
  have HS2 := Lib.hid hs2
  have hnc : kx ≠ 3 → nx.length = cn * zn := fun h => by have := (hn3 h).2; rw [hsp] at this; exact_mod_cast this
  have hic : kx = 3 → ix.length = cn * zn := fun h => by have := (hi3 h).2; rw [hsp] at this; exact_mod_cast this
  have HNC := Lib.hid hnc
  have HIC := Lib.hid hic
  have hc6 : cn ≤ 65536 := by omega
  have hz6 : zn ≤ 65536 := by omega
  have HDL := Lib.hid hdl
  have HCD := Lib.hid hcd
  have HEw := Lib.hid HE.out
  clear hct hcd hrv htl hdl HV HV2 hn hs1 hs2 hsp ht0 ht1 hd0 hd1 hcn hzn hnc hic htn hdn hrt hn3 hi3 HRP hln hmd
  go_wp2_with fail
  have HAx : Hid True := Lib.hid trivial
  refine wp_region_x1 [MProp.is (.pointer (some ⟨w.heap.size, 1, none⟩)), MProp.is (.slice p1 s.length m1), MProp.is (.int .i64 (s.length : Int)), MProp.is (.int .i64 k), MProp.is (.pointer (some ⟨w.heap.size, 1, none⟩)), MProp.is (.slice p1 s.length m1), MProp.is (.int .i64 (s.length : Int)), MProp.is (.int .i64 (rv : Int)), MProp.is (.int .i64 (n : Int))] [0, 1, 2, 3, 4, 5, 6, 7, 8] [] [13, 14, 15, 16, 17, 18, 19, 20, 21] 9 (by kernel_rfl) (by kernel_rfl) (by kernel_rfl) rfl ?_ ?_ ?_
  · refine mem_cons_m ?_ (mem_cons_m ?_ (mem_cons_m ?_ (mem_cons_m ?_ (mem_cons_m ?_ (mem_cons_m ?_ (mem_cons_m ?_ (mem_cons_m ?_ (mem_cons_m ?_ (mem_nil_m)))))))))
    · refine ⟨_, 13, rfl, by kernel_rfl, ?_⟩
      intro u w9 X hE hX hd K hK
      clear hd
      simp only [overlay, List.setIfInBounds_toArray, List.set] at hK ⊢
      go_wp2_with fail
      exact hK _ _ X (Ext.refl _) kept_m hX rfl
    · refine ⟨_, 14, rfl, by kernel_rfl, ?_⟩
      intro u w9 X hE hX hd K hK
      have d0 : u 13 = .pointer (some ⟨w.heap.size, 1, none⟩) := hd 0 (by kernel_rfl)
      clear hd
      simp only [overlay, List.setIfInBounds_toArray, List.set, d0] at hK ⊢
      have e9 : Ext w2 w9 := (Ext.refl w2).drew.trans hE
      obtain ⟨s0, s1, s2, s3⟩ := (HBx.out.ext e9).cell
      go_wp2_with fail
      exact hK _ _ X (Ext.refl _) kept_m hX rfl
    · refine ⟨_, 15, rfl, by kernel_rfl, ?_⟩
      intro u w9 X hE hX hd K hK
      have d1 : u 14 = .slice p1 s.length m1 := hd 1 (by kernel_rfl)
      clear hd
      simp only [overlay, List.setIfInBounds_toArray, List.set, d1] at hK ⊢
      go_wp2_with fail
      exact hK _ _ X (Ext.refl _) kept_m hX rfl
    · refine ⟨_, 16, rfl, by kernel_rfl, ?_⟩
      intro u w9 X hE hX hd K hK
      clear hd
      simp only [overlay, List.setIfInBounds_toArray, List.set] at hK ⊢
      go_wp2_with fail
      exact hK _ _ X (Ext.refl _) kept_m hX rfl
    · refine ⟨_, 17, rfl, by kernel_rfl, ?_⟩
      intro u w9 X hE hX hd K hK
      clear hd
      simp only [overlay, List.setIfInBounds_toArray, List.set] at hK ⊢
      go_wp2_with fail
      exact hK _ _ X (Ext.refl _) kept_m hX rfl
    · refine ⟨_, 18, rfl, by kernel_rfl, ?_⟩
      intro u w9 X hE hX hd K hK
      have d4 : u 17 = .pointer (some ⟨w.heap.size, 1, none⟩) := hd 4 (by kernel_rfl)
      clear hd
      simp only [overlay, List.setIfInBounds_toArray, List.set, d4] at hK ⊢
      have e9 : Ext w2 w9 := (Ext.refl w2).drew.trans hE
      obtain ⟨s0, s1, s2, s3⟩ := (HBx.out.ext e9).cell
      go_wp2_with fail
      exact hK _ _ X (Ext.refl _) kept_m hX rfl
    · refine ⟨_, 19, rfl, by kernel_rfl, ?_⟩
      intro u w9 X hE hX hd K hK
      have d5 : u 18 = .slice p1 s.length m1 := hd 5 (by kernel_rfl)
      clear hd
      simp only [overlay, List.setIfInBounds_toArray, List.set, d5] at hK ⊢
      go_wp2_with fail
      exact hK _ _ X (Ext.refl _) kept_m hX rfl
    · refine ⟨_, 20, rfl, by kernel_rfl, ?_⟩
      intro u w9 X hE hX hd K hK
      have d3 : u 16 = .int .i64 k := hd 3 (by kernel_rfl)
      have d6 : u 19 = .int .i64 (s.length : Int) := hd 6 (by kernel_rfl)
      clear hd
      simp only [overlay, List.setIfInBounds_toArray, List.set, d3, d6] at hK ⊢
      have e9 : Ext w2 w9 := (Ext.refl w2).drew.trans hE
      go_wp2_with fail
      refine (HRK.out w9).mono ?_
      rintro e w8 ⟨rfl, hE8⟩
      go_wp2_with fail
      exact hK _ _ X hE8 kept_m (hX.ext hE8) rfl
    · refine ⟨_, 21, rfl, by kernel_rfl, ?_⟩
      intro u w9 X hE hX hd K hK
      have d2 : u 15 = .int .i64 (s.length : Int) := hd 2 (by kernel_rfl)
      have d7 : u 20 = .int .i64 (rv : Int) := hd 7 (by kernel_rfl)
      clear hd
      simp only [overlay, List.setIfInBounds_toArray, List.set, d2, d7] at hK ⊢
      go_wp2_with fail
      exact hK _ _ X (Ext.refl _) kept_m hX rfl
  · exact mem_nil_m
  intro u w9 X hE hX hd
  have d0 : u 13 = .pointer (some ⟨w.heap.size, 1, none⟩) := hd 0 (by decide)
  have d1 : u 14 = .slice p1 s.length m1 := hd 1 (by decide)
  have d2 : u 15 = .int .i64 (s.length : Int) := hd 2 (by decide)
  have d3 : u 16 = .int .i64 k := hd 3 (by decide)
  have d4 : u 17 = .pointer (some ⟨w.heap.size, 1, none⟩) := hd 4 (by decide)
  have d5 : u 18 = .slice p1 s.length m1 := hd 5 (by decide)
  have d6 : u 19 = .int .i64 (s.length : Int) := hd 6 (by decide)
  have d7 : u 20 = .int .i64 (rv : Int) := hd 7 (by decide)
  have d8 : u 21 = .int .i64 (n : Int) := hd 8 (by decide)
  clear hd
  simp only [overlay, List.setIfInBounds_toArray, List.set, d0, d1, d2, d3, d4, d5, d6, d7, d8]
  have e9 : Ext w2 w9 := (Ext.refl w2).drew.trans hE
  clear d0 d1 d2 d3 d4 d5 d6 d7 d8
  clear hX hE
  clear u
  obtain ⟨wk2, rfl⟩ : ∃ wx : World, wx = w9 := ⟨_, rfl⟩
  replace HBx := Lib.hid (HBx.out.ext e9)
  replace HE := Lib.hid (HE.out.trans (e9))
  clear e9
  go_wp2_with fail
  refine OnlyN.mk ?_
  go_wp2_with fail
  refine wp_region_x1 [MProp.is (.pointer (some ⟨w.heap.size, 1, none⟩)), MProp.is (.slice p1 s.length m1), MProp.is (.int .i64 (n : Int)), MProp.is (.slice pt n m1), MProp.is (.int .i64 (cn : Int)), MProp.is (.pointer (some ⟨w.heap.size, 1, none⟩)), MProp.is (.slice p1 s.length m1), MProp.is (.int .i64 (n : Int)), MProp.is (.slice pd ln md), MProp.is (.int .i64 (zn : Int)), MProp.is (.int .i64 (cn : Int))] [0, 1, 2, 3, 4, 5, 6, 7, 8, 9, 10] [] [22, 23, 24, 25, 26, 27, 28, 29, 30, 31, 6] 11 (by kernel_rfl) (by kernel_rfl) (by kernel_rfl) rfl ?_ ?_ ?_
  · refine mem_cons_m ?_ (mem_cons_m ?_ (mem_cons_m ?_ (mem_cons_m ?_ (mem_cons_m ?_ (mem_cons_m ?_ (mem_cons_m ?_ (mem_cons_m ?_ (mem_cons_m ?_ (mem_cons_m ?_ (mem_cons_m ?_ (mem_nil_m)))))))))))
    · refine ⟨_, 22, rfl, by kernel_rfl, ?_⟩
      intro u w9 X hE hX hd K hK
      clear hd
      simp only [overlay, List.setIfInBounds_toArray, List.set] at hK ⊢
      go_wp2_with fail
      exact hK _ _ X (Ext.refl _) kept_m hX rfl
    · refine ⟨_, 23, rfl, by kernel_rfl, ?_⟩
      intro u w9 X hE hX hd K hK
      have d0 : u 22 = .pointer (some ⟨w.heap.size, 1, none⟩) := hd 0 (by kernel_rfl)
      clear hd
      simp only [overlay, List.setIfInBounds_toArray, List.set, d0] at hK ⊢
      have e9 : Ext wk2 w9 := (Ext.refl wk2).drew.trans hE
      obtain ⟨s0, s1, s2, s3⟩ := (HBx.out.ext e9).cell
      go_wp2_with fail
      exact hK _ _ X (Ext.refl _) kept_m hX rfl
    · refine ⟨_, 24, rfl, by kernel_rfl, ?_⟩
      intro u w9 X hE hX hd K hK
      clear hd
      simp only [overlay, List.setIfInBounds_toArray, List.set] at hK ⊢
      go_wp2_with fail
      exact hK _ _ X (Ext.refl _) kept_m hX rfl
    · refine ⟨_, 25, rfl, by kernel_rfl, ?_⟩
      intro u w9 X hE hX hd K hK
      have d1 : u 23 = .slice p1 s.length m1 := hd 1 (by kernel_rfl)
      have d2 : u 24 = .int .i64 (n : Int) := hd 2 (by kernel_rfl)
      clear hd
      simp only [overlay, List.setIfInBounds_toArray, List.set, d1, d2] at hK ⊢
      go_wp2_with fail
      exact hK _ _ X (Ext.refl _) kept_m hX rfl
    · refine ⟨_, 26, rfl, by kernel_rfl, ?_⟩
      intro u w9 X hE hX hd K hK
      have d3 : u 25 = .slice pt n m1 := hd 3 (by kernel_rfl)
      clear hd
      simp only [overlay, List.setIfInBounds_toArray, List.set, d3] at hK ⊢
      have e9 : Ext wk2 w9 := (Ext.refl wk2).drew.trans hE
      go_wp2_with fail
      refine (HS1.out w9 (HE.out.trans e9)).mono ?_
      rintro e w8 ⟨rfl, hE8⟩
      go_wp2_with fail
      exact hK _ _ X hE8 kept_m (hX.ext hE8) rfl
    · refine ⟨_, 27, rfl, by kernel_rfl, ?_⟩
      intro u w9 X hE hX hd K hK
      clear hd
      simp only [overlay, List.setIfInBounds_toArray, List.set] at hK ⊢
      go_wp2_with fail
      exact hK _ _ X (Ext.refl _) kept_m hX rfl
    · refine ⟨_, 28, rfl, by kernel_rfl, ?_⟩
      intro u w9 X hE hX hd K hK
      have d5 : u 27 = .pointer (some ⟨w.heap.size, 1, none⟩) := hd 5 (by kernel_rfl)
      clear hd
      simp only [overlay, List.setIfInBounds_toArray, List.set, d5] at hK ⊢
      have e9 : Ext wk2 w9 := (Ext.refl wk2).drew.trans hE
      obtain ⟨s0, s1, s2, s3⟩ := (HBx.out.ext e9).cell
      go_wp2_with fail
      exact hK _ _ X (Ext.refl _) kept_m hX rfl
    · refine ⟨_, 29, rfl, by kernel_rfl, ?_⟩
      intro u w9 X hE hX hd K hK
      clear hd
      simp only [overlay, List.setIfInBounds_toArray, List.set] at hK ⊢
      go_wp2_with fail
      exact hK _ _ X (Ext.refl _) kept_m hX rfl
    · refine ⟨_, 30, rfl, by kernel_rfl, ?_⟩
      intro u w9 X hE hX hd K hK
      have d6 : u 28 = .slice p1 s.length m1 := hd 6 (by kernel_rfl)
      have d7 : u 29 = .int .i64 (n : Int) := hd 7 (by kernel_rfl)
      clear hd
      simp only [overlay, List.setIfInBounds_toArray, List.set, d6, d7] at hK ⊢
      go_wp2_with fail
      exact hK _ _ X (Ext.refl _) kept_m hX rfl
    · refine ⟨_, 31, rfl, by kernel_rfl, ?_⟩
      intro u w9 X hE hX hd K hK
      have d8 : u 30 = .slice pd ln md := hd 8 (by kernel_rfl)
      clear hd
      simp only [overlay, List.setIfInBounds_toArray, List.set, d8] at hK ⊢
      have e9 : Ext wk2 w9 := (Ext.refl wk2).drew.trans hE
      go_wp2_with fail
      refine (HS2.out w9 (HE.out.trans e9)).mono ?_
      rintro e w8 ⟨rfl, hE8⟩
      go_wp2_with fail
      exact hK _ _ X hE8 kept_m (hX.ext hE8) rfl
    · refine ⟨_, 6, rfl, by kernel_rfl, ?_⟩
      intro u w9 X hE hX hd K hK
      have d4 : u 26 = .int .i64 (cn : Int) := hd 4 (by kernel_rfl)
      clear hd
      simp only [overlay, List.setIfInBounds_toArray, List.set, d4] at hK ⊢
      go_wp2_with fail
      exact hK _ _ X (Ext.refl _) kept_m hX rfl
  · exact mem_nil_m
  intro u w9 X hE hX hd
  have d0 : u 22 = .pointer (some ⟨w.heap.size, 1, none⟩) := hd 0 (by decide)
  have d1 : u 23 = .slice p1 s.length m1 := hd 1 (by decide)
  have d2 : u 24 = .int .i64 (n : Int) := hd 2 (by decide)
  have d3 : u 25 = .slice pt n m1 := hd 3 (by decide)
  have d4 : u 26 = .int .i64 (cn : Int) := hd 4 (by decide)
  have d5 : u 27 = .pointer (some ⟨w.heap.size, 1, none⟩) := hd 5 (by decide)
  have d6 : u 28 = .slice p1 s.length m1 := hd 6 (by decide)
  have d7 : u 29 = .int .i64 (n : Int) := hd 7 (by decide)
  have d8 : u 30 = .slice pd ln md := hd 8 (by decide)
  have d9 : u 31 = .int .i64 (zn : Int) := hd 9 (by decide)
  have d10 : u 6 = .int .i64 (cn : Int) := hd 10 (by decide)
  clear hd
  simp only [overlay, List.setIfInBounds_toArray, List.set, d0, d1, d2, d3, d4, d5, d6, d7, d8, d9, d10]
  have e9 : Ext wk2 w9 := (Ext.refl wk2).drew.trans hE
  clear d0 d1 d2 d3 d4 d5 d6 d7 d8 d9 d10
  clear hX hE
  generalize u 25 = t25z3
  generalize u 30 = t30z3
  clear u
  obtain ⟨wk4, rfl⟩ : ∃ wx : World, wx = w9 := ⟨_, rfl⟩
  replace HBx := Lib.hid (HBx.out.ext e9)
  replace HE := Lib.hid (HE.out.trans (e9))
  clear e9
  go_wp2_with fail
  refine OnlyN.mk ?_
  have hmk := run_make_arrs cn hc6
  have hS0 := OwnA.made (fun _ => False) wk4 cn hc6 (fun h => h)
  have hEa : Ext wk4 (wk4.alloc (.cells (madeCells #[.int .i64 0, .slice none 0 0, .slice none 0 0, .slice none 0 0] (cn * 4)) 26)) := (Ext.refl _).alloc _
  have HS0 := Lib.hid hS0
  have HEA := Lib.hid hEa
  clear hS0 hEa
  go_wp2_with fail
  generalize hg : (fun i : Nat => partV (.mk kx s nx ix) (i * zn) zn dn) = g at *
  have HP := Lib.hid (show ∀ (i : Nat) (w' : World), i < cn → Ext w w' → Calls Try.prog 125 #[.agg #[.int .i64 kx, .slice p1 s.length m1, .slice p2 nx.length m2, .slice p3 ix.length m3], .int .i64 ((i * zn : Nat) : Int), .int .i64 (zn : Int), .slice pd ln md] w' (GivesArr (g i) w') from fun i w' hi e => by
    have hle : i * zn + zn ≤ cn * zn := by
      have := Nat.mul_le_mul_right zn (show i + 1 ≤ cn from hi)
      rwa [Nat.succ_mul] at this
    have h := part_any F F kx s nx ix _ _ _ _ (i * zn) zn dn pd md w' (HX.out.ext e) (fun h => by rw [HNC.out h]; exact hle) (fun h => by rw [HIC.out h]; exact hle) (HCD.out.ext e) ⟨by rw [HDL.out]; omega, by omega, by rw [HDL.out]; omega⟩
    rw [HDL.out] at h
    rw [← hg]
    exact h)
  have HV4 := Lib.hid (show fv = (List.range cn).map g from HV3.out)
  clear hg HV3 HNC HIC HCD HDL hmk
  generalize wk4.alloc (.cells (madeCells #[.int .i64 0, .slice none 0 0, .slice none 0 0, .slice none 0 0] (cn * 4)) 26) = w5 at *
  go_loopw [8, 35] (fun ov iv wr => ∃ (i : Nat) (p : Option Addr) (c : Nat), ov = .slice p i c ∧ iv = .int .i64 (i : Int) ∧ i ≤ cn ∧ OwnA wk4.heap.size (fun _ => False) wr (.slice p i c) i ((List.range i).map g) ∧ Ext wk4 wr) (fun _ iv _ => cn - (intOf iv).toNat)
  case atStart => exact ⟨0, _, _, rfl, rfl, Nat.zero_le _, HS0.out, HEA.out⟩
  case round =>
    obtain ⟨i, p, c, rfl, rfl, hic, hO, hE⟩ := hrel
    clear HS0 HEA
    by_cases hlt : i < cn
    · have hmul : i * zn ≤ 65536 * 65536 := Nat.mul_le_mul (by omega) hz6
      have hwm : IntKind.i64.wrap ((i : Int) * (zn : Int)) = ((i * zn : Nat) : Int) := by rw [← Int.natCast_mul, IntWalk.i64_in _ (by omega)]
      clear hmul
      have HPI := HP.out i
      generalize ((i * zn : Nat) : Int) = iz at *
      replace HPI := Lib.hid HPI
      obtain ⟨s0, s1, s2, s3⟩ := (HBx.out.ext hE).cell
      go_wp2_with fail
      clear s0 s1 s2 s3
      have hS0 : Ext wk4 wr.drew := hE.drew
      refine wp_region_g [0, 1, 2, 3, 4, 5, 6, 7, 8] [9, 10, 11, 12, 13] (fun w' => Ext wk4 w') (by kernel_rfl) (by kernel_rfl) hS0 ?_
      iterate 9
        refine wpHead_cons (v := ?_) rfl (by rfl) (fun w' hS => ?_) ?_
        rotate_left
        · obtain ⟨sb0, sb1, sb2, sb3⟩ := (HBx.out.ext hS).cell
          go_simp
          try with_reducible rfl
        try simp only [Act.put, List.setIfInBounds_toArray, List.set]
      unfold wpHead
      refine wpTail_cons rfl (fun K hK => ?_)
      go_wp2_with fail
      refine hK _ _ hS0 ?_
      try simp only [Act.put, List.setIfInBounds_toArray, List.set]
      refine wpTail_cons rfl (fun K hK => ?_)
      go_wp2_with fail
      refine (HPI.out _ hlt (HE.out.trans hS0)).mono ?_
      rintro e w3 ⟨y0', y1', y2', y3', rfl, hy', hE3⟩
      obtain ⟨yk, pq1, mm1, n1, pq2, mm2, n2, pq3, mm3, n3, rfl, rfl, rfl, rfl⟩ := hy'.form
      have hS3 := hS0.trans hE3
      go_wp2_with fail
      refine hK _ _ hS3 ?_
      try simp only [Act.put, List.setIfInBounds_toArray, List.set]
      refine wpTail_cons rfl (fun K hK => ?_)
      go_wp2_with fail
      have hEb : Ext w3 (w3.alloc (.cells #[.int .i64 yk, .slice pq1 mm1 n1, .slice pq2 mm2 n2, .slice pq3 mm3 n3] 26)) := (Ext.refl _).alloc _
      have hbx := box_new w3 (.int .i64 yk) (.slice pq1 mm1 n1) (.slice pq2 mm2 n2) (.slice pq3 mm3 n3)
      have hEw := (Ext.refl wr).drew.trans hE3
      have hO4 := hO.ext (hEw.trans hEb)
      have hY4 := ArrAt.mono (G := Apart wk4.heap.size (fun _ => False) (.slice p i c)) (fun q hq _ => ⟨hO.apart0 hE.lt q hq, rfl⟩) _ _ _ _ _ (hy'.ext hEb)
      have hS4 := hS3.trans hEb
      clear hO hy' hE3 hS3 hEw hS0
      generalize w3.alloc (.cells #[.int .i64 yk, .slice pq1 mm1 n1, .slice pq2 mm2 n2, .slice pq3 mm3 n3] 26) = w4 at *
      refine hK _ _ hS4 ?_
      try simp only [Act.put, List.setIfInBounds_toArray, List.set]
      refine wpTail_cons rfl (fun K hK => ?_)
      refine wpList_append_arr rfl _ _ rfl wk4.heap.size (fun _ => False) _ i _ (g i) _ _ _ _ rfl hO4 _ _ rfl hbx (fun _ h => h.elim) hY4 (by omega) hS4.lt ?_
      intro gb cap w8 hon8 hgrow hat8 _ hgb
      have hS8 : Ext wk4 w8 := hS4.grown hgrow hS4.lt (fun q e => (hO4.lt q e).1)
      refine hK _ _ hS8 ?_
      try simp only [Act.put, List.setIfInBounds_toArray, List.set]
      refine wpTail_free1 rfl (by kernel_rfl) ?_
      clear hO4 hbx hY4 hS4 hEb hgrow hat8
      go_wp2_with fail
      refine OnlyN.mk ?_
      (try simp only [Exit.inBlock, Exit.then])
      go_wp2_with fail
      go_roundw
      case rel => exact ⟨i + 1, _, _, rfl, by go_num, by omega, by rw [List.range_succ, List.map_append]; exact hon8, hS8⟩
      case measure => simp [intOf]; omega
    · have hie : i = cn := by omega
      subst hie
      go_wp2_with fail
      go_ret
      obtain ⟨p9, c9, hv9, hk9, hi9⟩ := hO.items (by omega)
      have hE9 := HE.out.trans hE
      refine ⟨_, rfl, ?_, hE9⟩
      rw [HV4.out, hv9]
      exact ⟨p9, c9, rfl, hk9, ItemsAt.mono (fun b hb _ => ⟨Nat.le_trans HE.out.lt hb.1, rfl⟩) _ _ _ hi9⟩

end Go.Proofs.Ytgeppialbkijiaa
