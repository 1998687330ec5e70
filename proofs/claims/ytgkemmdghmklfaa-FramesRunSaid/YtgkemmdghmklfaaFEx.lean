/-
  THE WALK of law39.example. (Printed by gen_fex.py.)
-/
import Derived.Test.YtgkemmdghmklfaaFNum
namespace Go.Proofs.Ytgkemmdghmklfaa
set_option linter.unusedSimpArgs false
set_option linter.unusedVariables false
open Go.RowKit

theorem FrAt.fb {F : Nat → Prop} {w : World} {b : Nat} {l : List Slot} {q : Option Addr} (h : FrAt F w b l q) : F b := by
  obtain ⟨_, _, _, _, _, _, f, _⟩ := h
  exact f
set_option maxRecDepth 100000 in
set_option maxHeartbeats 8000000 in
theorem fexample_any (w : World) : Calls Try.prog 19 #[] w fun e w' => e = .returned (.bool true) ∧ Ext w w' := by
  go_enter Try.func19, Try.ntmps19
  go_wp2_with fail
  refine (new_any 1 none w (by decide)).mono ?_
  rintro e w1 ⟨bo, rfl, hfo, hE1⟩
  replace hfo : FrAt (fun x => w.heap.size ≤ x ∧ x < w1.heap.size) w1 bo [.no] none := hfo.mono fun x hx hlt => ⟨⟨hx, hlt⟩, rfl⟩
  go_wp2_with fail
  refine (new_any 2 (some ⟨bo, 0, none⟩) w1 (by decide)).mono ?_
  rintro e w2 ⟨bi, rfl, hfi, hE2⟩
  replace hfi : FrAt (fun x => w1.heap.size ≤ x) w2 bi [.no, .no] (some ⟨bo, 0, none⟩) := hfi
  have HBo := Lib.hid (show w.heap.size ≤ bo from hfo.fb.1)
  have HBo2 := Lib.hid (show bo < w1.heap.size from hfo.fb.2)
  have HBi2 := Lib.hid (show w1.heap.size ≤ bi from hfi.fb)
  have HBi := Lib.hid (show w.heap.size ≤ bi from Nat.le_trans hE1.lt hfi.fb)
  have HW1 := Lib.hid (show w.heap.size ≤ w1.heap.size from hE1.lt)
  have HW2 := Lib.hid (show w1.heap.size ≤ w2.heap.size from hE2.lt)
  have HFo := Lib.hid (hfo.ext hE2)
  have HFi := Lib.hid hfi
  have HE := Lib.hid (hE1.trans hE2)
  clear hfo hfi hE1 hE2
  go_wp2_with fail
  refine (num_any 5 w2 (by decide)).mono ?_
  rintro e wna ⟨e0, e1, e2, e3, rfl, hAa, hNa⟩
  obtain ⟨nka, npa, nla, nca, nqa, nma, nda, nra, noa, nea, rfl, rfl, rfl, rfl⟩ := hAa.form
  replace HFo := Lib.hid (HFo.out.ext hNa)
  replace HFi := Lib.hid (HFi.out.ext hNa)
  replace HE := Lib.hid (HE.out.trans hNa)
  have HNa := Lib.hid hNa
  have HAa := Lib.hid hAa
  clear hAa hNa
  go_wp2_with fail
  refine (set_rd HE.out HBi.out HFi.out HAa.out (by decide) (ok := true) (sl' := [.no, .arr (numV 5)]) (by kernel_rfl) (by kernel_rfl)).mono ?_
  rintro e w3 ⟨rfl, hfa, hea, hka⟩
  have hlta := HNa.out.lt
  have HW3 := Lib.hid (show w1.heap.size ≤ w3.heap.size from Nat.le_trans HBi2.out (Nat.le_of_lt hfa.lt))
  replace HFo := Lib.hid (HFo.out.mono (G := fun x => w.heap.size ≤ x ∧ x < w1.heap.size) (w' := w3) fun x hx hlt => ⟨hx, hka x hlt (by have := HBi2.out; omega)⟩)
  replace HFi := Lib.hid (hfa.mono (G := fun x => w1.heap.size ≤ x) (w' := w3) fun x hx _ => ⟨hx.elim id (fun h => by have := HW2.out; omega), rfl⟩)
  replace HE := Lib.hid hea
  clear hfa hea hka hlta
  go_wp2_with fail
  refine (num_any 5 w3 (by decide)).mono ?_
  rintro e wnb ⟨e0, e1, e2, e3, rfl, hAb, hNb⟩
  obtain ⟨nkb, npb, nlb, ncb, nqb, nmb, ndb, nrb, nob, neb, rfl, rfl, rfl, rfl⟩ := hAb.form
  replace HFo := Lib.hid (HFo.out.ext hNb)
  replace HFi := Lib.hid (HFi.out.ext hNb)
  replace HE := Lib.hid (HE.out.trans hNb)
  have HNb := Lib.hid hNb
  have HAb := Lib.hid hAb
  clear hAb hNb
  go_wp2_with fail
  refine (set_rd HE.out HBi.out HFi.out HAb.out (by decide) (ok := false) (sl' := [.no, .arr (numV 5)]) (by kernel_rfl) (by kernel_rfl)).mono ?_
  rintro e w4 ⟨rfl, hfb, heb, hkb⟩
  have hltb := HNb.out.lt
  have HW4 := Lib.hid (show w1.heap.size ≤ w4.heap.size from Nat.le_trans HBi2.out (Nat.le_of_lt hfb.lt))
  replace HFo := Lib.hid (HFo.out.mono (G := fun x => w.heap.size ≤ x ∧ x < w1.heap.size) (w' := w4) fun x hx hlt => ⟨hx, hkb x hlt (by have := HBi2.out; omega)⟩)
  replace HFi := Lib.hid (hfb.mono (G := fun x => w1.heap.size ≤ x) (w' := w4) fun x hx _ => ⟨hx.elim id (fun h => by have := HW3.out; omega), rfl⟩)
  replace HE := Lib.hid heb
  clear hfb heb hkb hltb
  go_wp2_with fail
  refine (num_any 7 w4 (by decide)).mono ?_
  rintro e wnc ⟨e0, e1, e2, e3, rfl, hAc, hNc⟩
  obtain ⟨nkc, npc, nlc, ncc, nqc, nmc, ndc, nrc, noc, nec, rfl, rfl, rfl, rfl⟩ := hAc.form
  replace HFo := Lib.hid (HFo.out.ext hNc)
  replace HFi := Lib.hid (HFi.out.ext hNc)
  replace HE := Lib.hid (HE.out.trans hNc)
  have HNc := Lib.hid hNc
  have HAc := Lib.hid hAc
  clear hAc hNc
  go_wp2_with fail
  refine (set_rd HE.out HBo.out HFo.out HAc.out (by decide) (ok := true) (sl' := [.arr (numV 7)]) (by kernel_rfl) (by kernel_rfl)).mono ?_
  rintro e w5 ⟨rfl, hfc, hec, hkc⟩
  have hltc := HNc.out.lt
  replace HFi := Lib.hid (HFi.out.mono (G := fun x => w1.heap.size ≤ x) (w' := w5) fun x hx hlt => ⟨hx, hkc x hlt (by have := HBo2.out; omega)⟩)
  have HFR := Lib.hid (show IsFr (fun _ => True) w5 (some ⟨bi, 0, none⟩) [(bi, [.no, .arr (numV 5)]), (bo, [.arr (numV 7)])] from ⟨_, rfl, HFi.out.mono fun _ _ _ => ⟨trivial, rfl⟩, _, rfl, hfc.mono fun _ _ _ => ⟨trivial, rfl⟩, rfl⟩)
  replace HE := Lib.hid hec
  clear hfc hec hkc hltc HFi HFo HNa HNb HNc HAa HAb HAc
  go_wp2_with fail
  have hg := get_any (fun _ => True) (some ⟨bi, 0, none⟩) [(bi, [.no, .arr (numV 5)]), (bo, [.arr (numV 7)])] (by simp) 1 0 w5 HFR.out (by decide) (by decide) rfl
  rw [show getV [(bi, [.no, .arr (numV 5)]), (bo, [.arr (numV 7)])] 1 0 = some (numV 7) from rfl] at hg
  simp only [Option.isSome_some, Option.getD_some] at hg
  refine hg.mono ?_
  rintro e w6 ⟨g0, g1, g2, g3, rfl, hG7, hE6⟩
  obtain ⟨gk, gp1, gl1, gc1, gp2, gl2, gc2, gp3, gl3, gc3, rfl, rfl, rfl, rfl⟩ := hG7.form
  clear hg
  replace HFR := Lib.hid (HFR.out.ext hE6)
  replace HE := Lib.hid (HE.out.trans hE6)
  have HG7 := Lib.hid hG7
  clear hG7 hE6
  go_wp2_with fail
  have eb : Ext w6 (w6.alloc (.cells #[.int .i64 gk, .slice gp1 gl1 gc1, .slice gp2 gl2 gc2, .slice gp3 gl3 gc3, .nilIface] 38)) := (Ext.refl _).alloc _
  have rb := RowC.new 38 w6 [.int .i64 gk, .slice gp1 gl1 gc1, .slice gp2 gl2 gc2, .slice gp3 gl3 gc3, .nilIface]
  change RowC _ (w6.alloc (.cells #[.int .i64 gk, .slice gp1 gl1 gc1, .slice gp2 gl2 gc2, .slice gp3 gl3 gc3, .nilIface] 38)) _ _ at rb
  generalize w6.alloc (.cells #[.int .i64 gk, .slice gp1 gl1 gc1, .slice gp2 gl2 gc2, .slice gp3 gl3 gc3, .nilIface] 38) = w7 at *
  generalize hb3 : w6.heap.size = b3 at *
  clear hb3
  replace HFR := Lib.hid (HFR.out.ext eb)
  replace HE := Lib.hid (HE.out.trans eb)
  replace HG7 := Lib.hid (HG7.out.ext eb)
  have R3 := Lib.hid rb
  clear rb eb
  have hg := get_any (fun _ => True) (some ⟨bi, 0, none⟩) [(bi, [.no, .arr (numV 5)]), (bo, [.arr (numV 7)])] (by simp) 0 0 w7 HFR.out (by decide) (by decide) rfl
  rw [show getV [(bi, [.no, .arr (numV 5)]), (bo, [.arr (numV 7)])] 0 0 = none from rfl] at hg
  simp only [Option.isSome_none, Option.getD_none] at hg
  refine hg.mono ?_
  rintro e w8 ⟨g0, g1, g2, g3, rfl, hZ, hE8⟩
  obtain ⟨zk, zp1, zl1, zc1, zp2, zl2, zc2, zp3, zl3, zc3, rfl, rfl, rfl, rfl⟩ := hZ.form
  clear hg hZ
  go_wp2_with fail
  have hEn := hE8.alloc (.cells #[.int .i64 zk, .slice zp1 zl1 zc1, .slice zp2 zl2 zc2, .slice zp3 zl3 zc3, .nilIface] 38)
  generalize w8.alloc (.cells #[.int .i64 zk, .slice zp1 zl1 zc1, .slice zp2 zl2 zc2, .slice zp3 zl3 zc3, .nilIface] 38) = w9a at *
  replace HFR := Lib.hid (HFR.out.ext hEn)
  replace HE := Lib.hid (HE.out.trans hEn)
  replace HG7 := Lib.hid (HG7.out.ext hEn)
  replace R3 := Lib.hid (R3.out.ext hEn)
  clear hEn hE8
  have hg := arrs_any (fun _ => True) (some ⟨bi, 0, none⟩) [(bi, [.no, .arr (numV 5)]), (bo, [.arr (numV 7)])] (by simp) w9a HFR.out
  rw [show frArrs [(bi, [.no, .arr (numV 5)]), (bo, [.arr (numV 7)])] = [numV 5, numV 7] from rfl] at hg
  refine hg.mono ?_
  rintro e w9e ⟨pl, cl, rfl, hk, hI, hEn⟩
  clear hg hk
  obtain ⟨bl, ol, l0, l1, l2, l3, hp, _, i0, i1, i2, i3, hA0⟩ := ItemsAt.get _ _ 0 0 hI (by decide)
  obtain ⟨bl', ol', m0, m1, m2, m3, hp', _, j0, j1, j2, j3, hA1⟩ := ItemsAt.get _ _ 0 1 hI (by decide)
  subst hp
  cases hp'
  simp only [Nat.zero_add, Nat.zero_mul, Nat.add_zero, Nat.one_mul, List.getElem_cons_zero, List.getElem_cons_succ] at i0 i1 i2 i3 j0 j1 j2 j3 hA0 hA1
  obtain ⟨ak, ap1, al1, ac1, ap2, al2, ac2, ap3, al3, ac3, rfl, rfl, rfl, rfl⟩ := hA0.form
  obtain ⟨bk, bp1, bl1, bc1, bp2, bl2, bc2, bp3, bl3, bc3, rfl, rfl, rfl, rfl⟩ := hA1.form
  have HL0 := Lib.hid hA0
  have HL1 := Lib.hid hA1
  replace HFR := Lib.hid (HFR.out.ext hEn)
  replace HE := Lib.hid (HE.out.trans hEn)
  replace HG7 := Lib.hid (HG7.out.ext hEn)
  replace R3 := Lib.hid (R3.out.ext hEn)
  clear hEn hI hA0 hA1
  go_wp2_with fail
  refine wp_region_x1 (MProp.is (.bool true) :: MProp.is (.bool true) :: MProp.is (.bool false) :: MProp.is (.bool true) :: MProp.is (.bool true) :: MProp.is (.bool true) :: MProp.is (.pointer (some ⟨b3, 0, none⟩)) :: MProp.is (.agg #[.int .i64 gk, .slice gp1 gl1 gc1, .slice gp2 gl2 gc2, .slice gp3 gl3 gc3]) :: MProp.rd (numV 7) :: MProp.is (.bool true) :: MProp.is (.bool true) :: MProp.is (.bool true) :: MProp.is (.pointer (some ⟨bi, 0, none⟩)) :: MProp.is (.int .i64 1) :: MProp.is (.bool true) :: MProp.is (.bool true) :: MProp.is (.bool true) :: MProp.is (.slice (some ⟨bl, ol, none⟩) 2 cl) :: MProp.is (.int .i64 2) :: MProp.is (.bool true) :: MProp.is (.bool true) :: MProp.is (.bool true) :: MProp.is (.slice (some ⟨bl, ol, none⟩) 2 cl) :: MProp.is (.pointer (some ⟨bl, ol, none⟩)) :: MProp.is (.agg #[.int .i64 ak, .slice ap1 al1 ac1, .slice ap2 al2 ac2, .slice ap3 al3 ac3]) :: MProp.rd (numV 5) :: MProp.is (.bool true) :: MProp.is (.bool true) :: MProp.is (.bool true) :: MProp.is (.slice (some ⟨bl, ol, none⟩) 2 cl) :: MProp.is (.pointer (some ⟨bl, ol + 4, none⟩)) :: MProp.is (.agg #[.int .i64 bk, .slice bp1 bl1 bc1, .slice bp2 bl2 bc2, .slice bp3 bl3 bc3]) :: MProp.rd (numV 7) :: MProp.is (.bool true) :: MProp.is (.bool true) :: []) (0 :: 1 :: 2 :: 3 :: 4 :: 5 :: 6 :: 7 :: 8 :: 9 :: 10 :: 11 :: 12 :: 13 :: 14 :: 15 :: 16 :: 17 :: 18 :: 19 :: 20 :: 21 :: 22 :: 23 :: 24 :: 25 :: 26 :: 27 :: 28 :: 29 :: 30 :: 31 :: 32 :: 33 :: 34 :: []) [] (41 :: 42 :: 43 :: 44 :: 45 :: 46 :: 47 :: 48 :: 49 :: 50 :: 51 :: 52 :: 53 :: 54 :: 55 :: 56 :: 57 :: 58 :: 59 :: 60 :: 61 :: 62 :: 63 :: 64 :: 65 :: 66 :: 67 :: 68 :: 69 :: 70 :: 71 :: 72 :: 73 :: 74 :: 75 :: []) 35 (by kernel_rfl) (by kernel_rfl) (by kernel_rfl) rfl ?_ ?_ ?_
  · refine mem_cons_m ?_ (mem_cons_m ?_ (mem_cons_m ?_ (mem_cons_m ?_ (mem_cons_m ?_ (mem_cons_m ?_ (mem_cons_m ?_ (mem_cons_m ?_ (mem_cons_m ?_ (mem_cons_m ?_ (mem_cons_m ?_ (mem_cons_m ?_ (mem_cons_m ?_ (mem_cons_m ?_ (mem_cons_m ?_ (mem_cons_m ?_ (mem_cons_m ?_ (mem_cons_m ?_ (mem_cons_m ?_ (mem_cons_m ?_ (mem_cons_m ?_ (mem_cons_m ?_ (mem_cons_m ?_ (mem_cons_m ?_ (mem_cons_m ?_ (mem_cons_m ?_ (mem_cons_m ?_ (mem_cons_m ?_ (mem_cons_m ?_ (mem_cons_m ?_ (mem_cons_m ?_ (mem_cons_m ?_ (mem_cons_m ?_ (mem_cons_m ?_ (mem_cons_m ?_ (mem_nil_m)))))))))))))))))))))))))))))))))))
    · refine ⟨_, 41, rfl, by kernel_rfl, ?_⟩
      intro u w9 X hE hX hd K hK
      clear hd
      simp only [overlay, List.setIfInBounds_toArray, List.set] at hK ⊢
      go_wp2_with fail
      exact hK _ _ X (Ext.refl _) kept_m hX rfl
    · refine ⟨_, 42, rfl, by kernel_rfl, ?_⟩
      intro u w9 X hE hX hd K hK
      have d0 : u 41 = .bool true := hd 0 (by kernel_rfl)
      clear hd
      simp only [overlay, List.setIfInBounds_toArray, List.set, d0] at hK ⊢
      go_wp2_with fail
      exact hK _ _ X (Ext.refl _) kept_m hX rfl
    · refine ⟨_, 43, rfl, by kernel_rfl, ?_⟩
      intro u w9 X hE hX hd K hK
      have d1 : u 42 = .bool true := hd 1 (by kernel_rfl)
      clear hd
      simp only [overlay, List.setIfInBounds_toArray, List.set, d1] at hK ⊢
      go_wp2_with fail
      exact hK _ _ X (Ext.refl _) kept_m hX rfl
    · refine ⟨_, 44, rfl, by kernel_rfl, ?_⟩
      intro u w9 X hE hX hd K hK
      have d2 : u 43 = .bool false := hd 2 (by kernel_rfl)
      have d1 : u 42 = .bool true := hd 1 (by kernel_rfl)
      clear hd
      simp only [overlay, List.setIfInBounds_toArray, List.set, d2, d1] at hK ⊢
      go_wp2_with fail
      exact hK _ _ X (Ext.refl _) kept_m hX rfl
    · refine ⟨_, 45, rfl, by kernel_rfl, ?_⟩
      intro u w9 X hE hX hd K hK
      have d1 : u 42 = .bool true := hd 1 (by kernel_rfl)
      have d3 : u 44 = .bool true := hd 3 (by kernel_rfl)
      clear hd
      simp only [overlay, List.setIfInBounds_toArray, List.set, d1, d3] at hK ⊢
      go_wp2_with fail
      exact hK _ _ X (Ext.refl _) kept_m hX rfl
    · refine ⟨_, 46, rfl, by kernel_rfl, ?_⟩
      intro u w9 X hE hX hd K hK
      have d4 : u 45 = .bool true := hd 4 (by kernel_rfl)
      clear hd
      simp only [overlay, List.setIfInBounds_toArray, List.set, d4] at hK ⊢
      go_wp2_with fail
      exact hK _ _ X (Ext.refl _) kept_m hX rfl
    · refine ⟨_, 47, rfl, by kernel_rfl, ?_⟩
      intro u w9 X hE hX hd K hK
      have d5 : u 46 = .bool true := hd 5 (by kernel_rfl)
      clear hd
      simp only [overlay, List.setIfInBounds_toArray, List.set, d5] at hK ⊢
      go_wp2_with fail
      exact hK _ _ X (Ext.refl _) kept_m hX rfl
    · refine ⟨_, 48, rfl, by kernel_rfl, ?_⟩
      intro u w9 X hE hX hd K hK
      have d6 : u 47 = .pointer (some ⟨b3, 0, none⟩) := hd 6 (by kernel_rfl)
      have d5 : u 46 = .bool true := hd 5 (by kernel_rfl)
      clear hd
      simp only [overlay, List.setIfInBounds_toArray, List.set, d6, d5] at hK ⊢
      have e9 : Ext w9e w9 := (Ext.refl w9e).drew.trans hE
      obtain ⟨s0, s1, s2, s3, s4⟩ := (R3.out.ext e9).cell5
      go_wp2_with fail
      exact hK _ _ X (Ext.refl _) kept_m hX rfl
    · refine ⟨_, 49, rfl, by kernel_rfl, ?_⟩
      intro u w9 X hE hX hd K hK
      have d5 : u 46 = .bool true := hd 5 (by kernel_rfl)
      clear hd
      simp only [overlay, List.setIfInBounds_toArray, List.set, d5] at hK ⊢
      go_wp2_with fail
      refine (num_rd (by decide) hX.hi).mono ?_
      rintro e w8 ⟨x8, rfl, hx8, hE8⟩
      go_wp2_with fail
      exact hK _ _ X hE8 kept_m (hX.ext hE8) hx8
    · refine ⟨_, 50, rfl, by kernel_rfl, ?_⟩
      intro u w9 X hE hX hd K hK
      have d7 : u 48 = .agg #[.int .i64 gk, .slice gp1 gl1 gc1, .slice gp2 gl2 gc2, .slice gp3 gl3 gc3] := hd 7 (by kernel_rfl)
      have d8 : RdX X w9 (numV 7) (u 49) := hd 8 (by kernel_rfl)
      have d5 : u 46 = .bool true := hd 5 (by kernel_rfl)
      clear hd
      simp only [overlay, List.setIfInBounds_toArray, List.set, d7, d5] at hK ⊢
      have e9 : Ext w9e w9 := (Ext.refl w9e).drew.trans hE
      go_wp2_with fail
      refine (same_true (Rd.mk (HG7.out.ext e9)) d8.rd rfl rfl).mono ?_
      rintro e w8 ⟨rfl, hE8⟩
      go_wp2_with fail
      exact hK _ _ X hE8 kept_m (hX.ext hE8) rfl
    · refine ⟨_, 51, rfl, by kernel_rfl, ?_⟩
      intro u w9 X hE hX hd K hK
      have d5 : u 46 = .bool true := hd 5 (by kernel_rfl)
      have d9 : u 50 = .bool true := hd 9 (by kernel_rfl)
      clear hd
      simp only [overlay, List.setIfInBounds_toArray, List.set, d5, d9] at hK ⊢
      go_wp2_with fail
      exact hK _ _ X (Ext.refl _) kept_m hX rfl
    · refine ⟨_, 52, rfl, by kernel_rfl, ?_⟩
      intro u w9 X hE hX hd K hK
      have d10 : u 51 = .bool true := hd 10 (by kernel_rfl)
      clear hd
      simp only [overlay, List.setIfInBounds_toArray, List.set, d10] at hK ⊢
      go_wp2_with fail
      exact hK _ _ X (Ext.refl _) kept_m hX rfl
    · refine ⟨_, 53, rfl, by kernel_rfl, ?_⟩
      intro u w9 X hE hX hd K hK
      have d11 : u 52 = .bool true := hd 11 (by kernel_rfl)
      clear hd
      simp only [overlay, List.setIfInBounds_toArray, List.set, d11] at hK ⊢
      go_wp2_with fail
      exact hK _ _ X (Ext.refl _) kept_m hX rfl
    · refine ⟨_, 54, rfl, by kernel_rfl, ?_⟩
      intro u w9 X hE hX hd K hK
      have d12 : u 53 = .pointer (some ⟨bi, 0, none⟩) := hd 12 (by kernel_rfl)
      have d11 : u 52 = .bool true := hd 11 (by kernel_rfl)
      clear hd
      simp only [overlay, List.setIfInBounds_toArray, List.set, d12, d11] at hK ⊢
      have e9 : Ext w9e w9 := (Ext.refl w9e).drew.trans hE
      go_wp2_with fail
      refine (depth_any (some ⟨bi, 0, none⟩) [bi, bo] (by simp) w9 (HFR.out.ext e9).chain).mono ?_
      rintro e w8 ⟨rfl, hE8⟩
      go_wp2_with fail
      exact hK _ _ X hE8 kept_m (hX.ext hE8) rfl
    · refine ⟨_, 55, rfl, by kernel_rfl, ?_⟩
      intro u w9 X hE hX hd K hK
      have d13 : u 54 = .int .i64 1 := hd 13 (by kernel_rfl)
      have d11 : u 52 = .bool true := hd 11 (by kernel_rfl)
      clear hd
      simp only [overlay, List.setIfInBounds_toArray, List.set, d13, d11] at hK ⊢
      go_wp2_with fail
      exact hK _ _ X (Ext.refl _) kept_m hX rfl
    · refine ⟨_, 56, rfl, by kernel_rfl, ?_⟩
      intro u w9 X hE hX hd K hK
      have d11 : u 52 = .bool true := hd 11 (by kernel_rfl)
      have d14 : u 55 = .bool true := hd 14 (by kernel_rfl)
      clear hd
      simp only [overlay, List.setIfInBounds_toArray, List.set, d11, d14] at hK ⊢
      go_wp2_with fail
      exact hK _ _ X (Ext.refl _) kept_m hX rfl
    · refine ⟨_, 57, rfl, by kernel_rfl, ?_⟩
      intro u w9 X hE hX hd K hK
      have d15 : u 56 = .bool true := hd 15 (by kernel_rfl)
      clear hd
      simp only [overlay, List.setIfInBounds_toArray, List.set, d15] at hK ⊢
      go_wp2_with fail
      exact hK _ _ X (Ext.refl _) kept_m hX rfl
    · refine ⟨_, 58, rfl, by kernel_rfl, ?_⟩
      intro u w9 X hE hX hd K hK
      have d16 : u 57 = .bool true := hd 16 (by kernel_rfl)
      clear hd
      simp only [overlay, List.setIfInBounds_toArray, List.set, d16] at hK ⊢
      go_wp2_with fail
      exact hK _ _ X (Ext.refl _) kept_m hX rfl
    · refine ⟨_, 59, rfl, by kernel_rfl, ?_⟩
      intro u w9 X hE hX hd K hK
      have d17 : u 58 = .slice (some ⟨bl, ol, none⟩) 2 cl := hd 17 (by kernel_rfl)
      have d16 : u 57 = .bool true := hd 16 (by kernel_rfl)
      clear hd
      simp only [overlay, List.setIfInBounds_toArray, List.set, d17, d16] at hK ⊢
      go_wp2_with fail
      exact hK _ _ X (Ext.refl _) kept_m hX rfl
    · refine ⟨_, 60, rfl, by kernel_rfl, ?_⟩
      intro u w9 X hE hX hd K hK
      have d18 : u 59 = .int .i64 2 := hd 18 (by kernel_rfl)
      have d16 : u 57 = .bool true := hd 16 (by kernel_rfl)
      clear hd
      simp only [overlay, List.setIfInBounds_toArray, List.set, d18, d16] at hK ⊢
      go_wp2_with fail
      exact hK _ _ X (Ext.refl _) kept_m hX rfl
    · refine ⟨_, 61, rfl, by kernel_rfl, ?_⟩
      intro u w9 X hE hX hd K hK
      have d16 : u 57 = .bool true := hd 16 (by kernel_rfl)
      have d19 : u 60 = .bool true := hd 19 (by kernel_rfl)
      clear hd
      simp only [overlay, List.setIfInBounds_toArray, List.set, d16, d19] at hK ⊢
      go_wp2_with fail
      exact hK _ _ X (Ext.refl _) kept_m hX rfl
    · refine ⟨_, 62, rfl, by kernel_rfl, ?_⟩
      intro u w9 X hE hX hd K hK
      have d20 : u 61 = .bool true := hd 20 (by kernel_rfl)
      clear hd
      simp only [overlay, List.setIfInBounds_toArray, List.set, d20] at hK ⊢
      go_wp2_with fail
      exact hK _ _ X (Ext.refl _) kept_m hX rfl
    · refine ⟨_, 63, rfl, by kernel_rfl, ?_⟩
      intro u w9 X hE hX hd K hK
      have d21 : u 62 = .bool true := hd 21 (by kernel_rfl)
      clear hd
      simp only [overlay, List.setIfInBounds_toArray, List.set, d21] at hK ⊢
      go_wp2_with fail
      exact hK _ _ X (Ext.refl _) kept_m hX rfl
    · refine ⟨_, 64, rfl, by kernel_rfl, ?_⟩
      intro u w9 X hE hX hd K hK
      have d22 : u 63 = .slice (some ⟨bl, ol, none⟩) 2 cl := hd 22 (by kernel_rfl)
      have d21 : u 62 = .bool true := hd 21 (by kernel_rfl)
      clear hd
      simp only [overlay, List.setIfInBounds_toArray, List.set, d22, d21] at hK ⊢
      go_wp2_with fail
      exact hK _ _ X (Ext.refl _) kept_m hX rfl
    · refine ⟨_, 65, rfl, by kernel_rfl, ?_⟩
      intro u w9 X hE hX hd K hK
      have d23 : u 64 = .pointer (some ⟨bl, ol, none⟩) := hd 23 (by kernel_rfl)
      have d21 : u 62 = .bool true := hd 21 (by kernel_rfl)
      clear hd
      simp only [overlay, List.setIfInBounds_toArray, List.set, d23, d21] at hK ⊢
      have e9 : Ext w9e w9 := (Ext.refl w9e).drew.trans hE
      have a0 := e9.cell i0
      have a1 := e9.cell i1
      have a2 := e9.cell i2
      have a3 := e9.cell i3
      go_wp2_with fail
      exact hK _ _ X (Ext.refl _) kept_m hX rfl
    · refine ⟨_, 66, rfl, by kernel_rfl, ?_⟩
      intro u w9 X hE hX hd K hK
      have d21 : u 62 = .bool true := hd 21 (by kernel_rfl)
      clear hd
      simp only [overlay, List.setIfInBounds_toArray, List.set, d21] at hK ⊢
      go_wp2_with fail
      refine (num_rd (by decide) hX.hi).mono ?_
      rintro e w8 ⟨x8, rfl, hx8, hE8⟩
      go_wp2_with fail
      exact hK _ _ X hE8 kept_m (hX.ext hE8) hx8
    · refine ⟨_, 67, rfl, by kernel_rfl, ?_⟩
      intro u w9 X hE hX hd K hK
      have d24 : u 65 = .agg #[.int .i64 ak, .slice ap1 al1 ac1, .slice ap2 al2 ac2, .slice ap3 al3 ac3] := hd 24 (by kernel_rfl)
      have d25 : RdX X w9 (numV 5) (u 66) := hd 25 (by kernel_rfl)
      have d21 : u 62 = .bool true := hd 21 (by kernel_rfl)
      clear hd
      simp only [overlay, List.setIfInBounds_toArray, List.set, d24, d21] at hK ⊢
      have e9 : Ext w9e w9 := (Ext.refl w9e).drew.trans hE
      go_wp2_with fail
      refine (same_true (Rd.mk (HL0.out.ext e9)) d25.rd rfl rfl).mono ?_
      rintro e w8 ⟨rfl, hE8⟩
      go_wp2_with fail
      exact hK _ _ X hE8 kept_m (hX.ext hE8) rfl
    · refine ⟨_, 68, rfl, by kernel_rfl, ?_⟩
      intro u w9 X hE hX hd K hK
      have d21 : u 62 = .bool true := hd 21 (by kernel_rfl)
      have d26 : u 67 = .bool true := hd 26 (by kernel_rfl)
      clear hd
      simp only [overlay, List.setIfInBounds_toArray, List.set, d21, d26] at hK ⊢
      go_wp2_with fail
      exact hK _ _ X (Ext.refl _) kept_m hX rfl
    · refine ⟨_, 69, rfl, by kernel_rfl, ?_⟩
      intro u w9 X hE hX hd K hK
      have d27 : u 68 = .bool true := hd 27 (by kernel_rfl)
      clear hd
      simp only [overlay, List.setIfInBounds_toArray, List.set, d27] at hK ⊢
      go_wp2_with fail
      exact hK _ _ X (Ext.refl _) kept_m hX rfl
    · refine ⟨_, 70, rfl, by kernel_rfl, ?_⟩
      intro u w9 X hE hX hd K hK
      have d28 : u 69 = .bool true := hd 28 (by kernel_rfl)
      clear hd
      simp only [overlay, List.setIfInBounds_toArray, List.set, d28] at hK ⊢
      go_wp2_with fail
      exact hK _ _ X (Ext.refl _) kept_m hX rfl
    · refine ⟨_, 71, rfl, by kernel_rfl, ?_⟩
      intro u w9 X hE hX hd K hK
      have d29 : u 70 = .slice (some ⟨bl, ol, none⟩) 2 cl := hd 29 (by kernel_rfl)
      have d28 : u 69 = .bool true := hd 28 (by kernel_rfl)
      clear hd
      simp only [overlay, List.setIfInBounds_toArray, List.set, d29, d28] at hK ⊢
      go_wp2_with fail
      exact hK _ _ X (Ext.refl _) kept_m hX rfl
    · refine ⟨_, 72, rfl, by kernel_rfl, ?_⟩
      intro u w9 X hE hX hd K hK
      have d30 : u 71 = .pointer (some ⟨bl, ol + 4, none⟩) := hd 30 (by kernel_rfl)
      have d28 : u 69 = .bool true := hd 28 (by kernel_rfl)
      clear hd
      simp only [overlay, List.setIfInBounds_toArray, List.set, d30, d28] at hK ⊢
      have e9 : Ext w9e w9 := (Ext.refl w9e).drew.trans hE
      have a0 := e9.cell j0
      have a1 := e9.cell j1
      have a2 := e9.cell j2
      have a3 := e9.cell j3
      go_wp2_with fail
      exact hK _ _ X (Ext.refl _) kept_m hX rfl
    · refine ⟨_, 73, rfl, by kernel_rfl, ?_⟩
      intro u w9 X hE hX hd K hK
      have d28 : u 69 = .bool true := hd 28 (by kernel_rfl)
      clear hd
      simp only [overlay, List.setIfInBounds_toArray, List.set, d28] at hK ⊢
      go_wp2_with fail
      refine (num_rd (by decide) hX.hi).mono ?_
      rintro e w8 ⟨x8, rfl, hx8, hE8⟩
      go_wp2_with fail
      exact hK _ _ X hE8 kept_m (hX.ext hE8) hx8
    · refine ⟨_, 74, rfl, by kernel_rfl, ?_⟩
      intro u w9 X hE hX hd K hK
      have d31 : u 72 = .agg #[.int .i64 bk, .slice bp1 bl1 bc1, .slice bp2 bl2 bc2, .slice bp3 bl3 bc3] := hd 31 (by kernel_rfl)
      have d32 : RdX X w9 (numV 7) (u 73) := hd 32 (by kernel_rfl)
      have d28 : u 69 = .bool true := hd 28 (by kernel_rfl)
      clear hd
      simp only [overlay, List.setIfInBounds_toArray, List.set, d31, d28] at hK ⊢
      have e9 : Ext w9e w9 := (Ext.refl w9e).drew.trans hE
      go_wp2_with fail
      refine (same_true (Rd.mk (HL1.out.ext e9)) d32.rd rfl rfl).mono ?_
      rintro e w8 ⟨rfl, hE8⟩
      go_wp2_with fail
      exact hK _ _ X hE8 kept_m (hX.ext hE8) rfl
    · refine ⟨_, 75, rfl, by kernel_rfl, ?_⟩
      intro u w9 X hE hX hd K hK
      have d28 : u 69 = .bool true := hd 28 (by kernel_rfl)
      have d33 : u 74 = .bool true := hd 33 (by kernel_rfl)
      clear hd
      simp only [overlay, List.setIfInBounds_toArray, List.set, d28, d33] at hK ⊢
      go_wp2_with fail
      exact hK _ _ X (Ext.refl _) kept_m hX rfl
  · exact mem_nil_m
  intro u w9 X hE hX hd
  have d0 : u 41 = .bool true := hd 0 (by decide)
  have d1 : u 42 = .bool true := hd 1 (by decide)
  have d2 : u 43 = .bool false := hd 2 (by decide)
  have d3 : u 44 = .bool true := hd 3 (by decide)
  have d4 : u 45 = .bool true := hd 4 (by decide)
  have d5 : u 46 = .bool true := hd 5 (by decide)
  have d6 : u 47 = .pointer (some ⟨b3, 0, none⟩) := hd 6 (by decide)
  have d7 : u 48 = .agg #[.int .i64 gk, .slice gp1 gl1 gc1, .slice gp2 gl2 gc2, .slice gp3 gl3 gc3] := hd 7 (by decide)
  have d8 : RdX X w9 (numV 7) (u 49) := hd 8 (by decide)
  have d9 : u 50 = .bool true := hd 9 (by decide)
  have d10 : u 51 = .bool true := hd 10 (by decide)
  have d11 : u 52 = .bool true := hd 11 (by decide)
  have d12 : u 53 = .pointer (some ⟨bi, 0, none⟩) := hd 12 (by decide)
  have d13 : u 54 = .int .i64 1 := hd 13 (by decide)
  have d14 : u 55 = .bool true := hd 14 (by decide)
  have d15 : u 56 = .bool true := hd 15 (by decide)
  have d16 : u 57 = .bool true := hd 16 (by decide)
  have d17 : u 58 = .slice (some ⟨bl, ol, none⟩) 2 cl := hd 17 (by decide)
  have d18 : u 59 = .int .i64 2 := hd 18 (by decide)
  have d19 : u 60 = .bool true := hd 19 (by decide)
  have d20 : u 61 = .bool true := hd 20 (by decide)
  have d21 : u 62 = .bool true := hd 21 (by decide)
  have d22 : u 63 = .slice (some ⟨bl, ol, none⟩) 2 cl := hd 22 (by decide)
  have d23 : u 64 = .pointer (some ⟨bl, ol, none⟩) := hd 23 (by decide)
  have d24 : u 65 = .agg #[.int .i64 ak, .slice ap1 al1 ac1, .slice ap2 al2 ac2, .slice ap3 al3 ac3] := hd 24 (by decide)
  have d25 : RdX X w9 (numV 5) (u 66) := hd 25 (by decide)
  have d26 : u 67 = .bool true := hd 26 (by decide)
  have d27 : u 68 = .bool true := hd 27 (by decide)
  have d28 : u 69 = .bool true := hd 28 (by decide)
  have d29 : u 70 = .slice (some ⟨bl, ol, none⟩) 2 cl := hd 29 (by decide)
  have d30 : u 71 = .pointer (some ⟨bl, ol + 4, none⟩) := hd 30 (by decide)
  have d31 : u 72 = .agg #[.int .i64 bk, .slice bp1 bl1 bc1, .slice bp2 bl2 bc2, .slice bp3 bl3 bc3] := hd 31 (by decide)
  have d32 : RdX X w9 (numV 7) (u 73) := hd 32 (by decide)
  have d33 : u 74 = .bool true := hd 33 (by decide)
  have d34 : u 75 = .bool true := hd 34 (by decide)
  clear hd
  simp only [overlay, List.setIfInBounds_toArray, List.set, d0, d1, d2, d3, d4, d5, d6, d7, d9, d10, d11, d12, d13, d14, d15, d16, d17, d18, d19, d20, d21, d22, d23, d24, d26, d27, d28, d29, d30, d31, d33, d34]
  have e9 : Ext w9e w9 := (Ext.refl w9e).drew.trans hE
  clear d0 d1 d2 d3 d4 d5 d6 d7 d8 d9 d10 d11 d12 d13 d14 d15 d16 d17 d18 d19 d20 d21 d22 d23 d24 d25 d26 d27 d28 d29 d30 d31 d32 d33 d34 hX hE
  generalize u 49 = z49 at *
  generalize u 66 = z66 at *
  generalize u 73 = z73 at *
  clear u
  go_wp2_with fail
  refine OnlyN.mk ?_
  go_wp2_with fail
  go_ret
  exact ⟨rfl, HE.out.trans e9⟩
end Go.Proofs.Ytgkemmdghmklfaa
