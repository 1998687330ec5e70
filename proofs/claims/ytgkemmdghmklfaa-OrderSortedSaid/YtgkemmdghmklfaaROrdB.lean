/-
  THE WALKS of arraylangref06.compare, Compare, Less. (Printed by gen_rordb.py.)
-/
import Derived.Test.YtgkemmdghmklfaaRCont
import Derived.Test.YtgkemmdghmklfaaRRight
namespace Go.Proofs.Ytgkemmdghmklfaa
set_option linter.unusedSimpArgs false
set_option linter.unusedVariables false
open Go.RowKit

set_option maxRecDepth 1000000 in
set_option maxHeartbeats 16000000 in
theorem rcompare_any (F G : Nat → Prop) : ∀ (m : Nat) (x y : Arr) (c0 c1 c2 c3 d0 d1 d2 d3 : Value) (w : World), szA x < m → ArrAt F w x c0 c1 c2 c3 → ArrAt G w y d0 d1 d2 d3 → rightV x = 0 → rightV y = 0 →
    Calls Try.prog 98 #[.agg #[c0, c1, c2, c3], .agg #[d0, d1, d2, d3]] w fun e w' => e = .returned (.int .i64 (cmpF m x y)) ∧ Ext w w' := by
  intro m
  induction m with
  | zero => intro x y c0 c1 c2 c3 d0 d1 d2 d3 w h; omega
  | succ m ih =>
  intro x y c0 c1 c2 c3 d0 d1 d2 d3 w hm hx hy hrx hry
  obtain ⟨kx, sx, nx, ix⟩ := x
  obtain ⟨ky, sy, ny, iy⟩ := y
  have hx' := hx
  have hy' := hy
  unfold ArrAt at hx' hy'
  obtain ⟨rfl, hkx, ⟨p1, m1, rfl, ⟨o1, o1', o1''⟩, i1⟩, ⟨p2, m2, rfl, ⟨o2, o2', o2''⟩, i2⟩, ⟨p3, m3, rfl, ⟨o3, o3', o3''⟩, i3⟩⟩ := hx'
  obtain ⟨rfl, hky, ⟨q1, n1, rfl, ⟨r1, r1', r1''⟩, j1⟩, ⟨q2, n2, rfl, ⟨r2, r2', r2''⟩, j2⟩, ⟨q3, n3, rfl, ⟨r3, r3', r3''⟩, j3⟩⟩ := hy'
  have HX := Lib.hid hx
  have HY := Lib.hid hy
  have HSX := Lib.hid i1
  have HSY := Lib.hid j1
  clear hx hy i1 i2 i3 j1 j2 j3
  have hE0 : Ext w ((w.alloc (.cells #[.int .i64 kx, .slice p1 sx.length m1, .slice p2 nx.length m2, .slice p3 ix.length m3] 26)).alloc (.cells #[.int .i64 ky, .slice q1 sy.length n1, .slice q2 ny.length n2, .slice q3 iy.length n3] 26)) := ((Ext.refl _).alloc _).alloc _
  have hBX := (box_new w (.int .i64 kx) (.slice p1 sx.length m1) (.slice p2 nx.length m2) (.slice p3 ix.length m3)).ext ((Ext.refl _).alloc (.cells #[.int .i64 ky, .slice q1 sy.length n1, .slice q2 ny.length n2, .slice q3 iy.length n3] 26))
  have hBY := box_new (w.alloc (.cells #[.int .i64 kx, .slice p1 sx.length m1, .slice p2 nx.length m2, .slice p3 ix.length m3] 26)) (.int .i64 ky) (.slice q1 sy.length n1) (.slice q2 ny.length n2) (.slice q3 iy.length n3)
  rw [World.size_alloc] at hBY
  have HE0 := Lib.hid hE0
  have HBX := Lib.hid hBX
  have HBY := Lib.hid hBY
  by_cases hk : kx = ky
  rotate_left
  · have HV := Lib.hid (show cmpF (m + 1) (.mk kx sx nx ix) (.mk ky sy ny iy) = sgn kx ky by rw [cmpF, if_pos hk])
    have hk2 : (kx != ky) = true := by simpa using hk
    clear hk ih hrx hry hm hE0 hBX hBY
    go_enter Try.func98, Try.ntmps98
    go_wp2_with fail
    refine (r6sign_any kx ky _).mono ?_
    rintro e w' ⟨rfl, rfl⟩
    go_wp2_with fail
    go_ret
    exact ⟨ret_int HV.out.symm, HE0.out⟩
  subst hk
  by_cases hl : sx.length = sy.length
  rotate_left
  · have HV := Lib.hid (show cmpF (m + 1) (.mk kx sx nx ix) (.mk kx sy ny iy) = sgn sx.length sy.length by rw [cmpF, if_neg (by simp), if_pos hl])
    have hk2 : ((sx.length : Int) != (sy.length : Int)) = true := by simp; omega
    clear hl ih hrx hry hm hE0 hBX hBY
    go_enter Try.func98, Try.ntmps98
    go_wp2_with fail
    refine (r6sign_any sx.length sy.length _).mono ?_
    rintro e w' ⟨rfl, rfl⟩
    go_wp2_with fail
    go_ret
    exact ⟨ret_int HV.out.symm, HE0.out⟩
  have hpx := right_parts hrx
  have hpy := right_parts hry
  have hvx := right_vol hrx
  have hvy := right_vol hry
  have HV := Lib.hid (show cmpF (m + 1) (.mk kx sx nx ix) (.mk kx sy ny iy) = if contG (leafV (cmpF m) kx nx ny ix iy) sx sy 0 0 ≠ 0 then contG (leafV (cmpF m) kx nx ny ix iy) sx sy 0 0 else lexV sx sy by
    rw [cmpF, if_neg (by simp), if_neg (by simp [hl])]
    have e : contA (cmpF m) (.mk kx sx nx ix) (.mk kx sy ny iy) = contG (leafV (cmpF m) kx nx ny ix iy) sx sy 0 0 := by rw [contA, if_neg (by simp [hl])]; rfl
    rw [e])
  have HC := Lib.hid (fun (w' : World) (e : Ext w w') => rcont_any (cmpF m) F G kx sx nx sy ny ix iy p1 p2 p3 q1 q2 q3 m1 m2 m3 n1 n2 n3 (volN sx) (volN sy) hvx.1 hvy.1 hvx.2 hvy.2 (fun _ i j hi hj w c0 c1 c2 c3 d0 d1 d2 d3 h1 h2 => by
    have z1 : ix.getD i default ∈ ix := by simp [List.getD, hi]
    have z2 : iy.getD j default ∈ iy := by simp [List.getD, hj]
    have hs := szA_item (k := kx) (s := sx) (n := nx) z1
    exact ih _ _ _ _ _ _ _ _ _ _ w (by omega) h1 h2 (right_items hrx _ z1) (right_items hry _ z2)) sx sy F G p1 q1 m1 n1 0 0 w' (HX.out.ext e) (HY.out.ext e) (HSX.out.ext e) (HSY.out.ext e) hl hpx.2.1 o1 r1 hpx.2.2.1 hpy.2.2.1 (by omega) (by omega) (fun _ => by omega) (fun _ => by omega))
  generalize cmpF (m + 1) (.mk kx sx nx ix) (.mk kx sy ny iy) = cv at *
  generalize contG (leafV (cmpF m) kx nx ny ix iy) sx sy 0 0 = ct at *
  have hk2 : ((sx.length : Int) != (sy.length : Int)) = false := by simp; omega
  have HL := Lib.hid hl
  clear hl ih hrx hry hm hE0 hBX hBY hpx hpy hvx hvy
  go_enter Try.func98, Try.ntmps98
  go_wp2_with fail
  refine (HC.out _ HE0.out).mono ?_
  rintro e w2 ⟨rfl, hE⟩
  have hE2 := HE0.out.trans hE
  have HB1 := Lib.hid (HBX.out.ext hE)
  have HB2 := Lib.hid (HBY.out.ext hE)
  clear hE HC HBX HBY HE0
  by_cases hc : ct = 0
  · subst hc
    have HV2 := Lib.hid (show cv = lexV sx sy by rw [HV.out, if_neg (by simp)])
    obtain ⟨s0, s1, s2, s3⟩ := HB1.out.cell
    obtain ⟨t0, t1, t2, t3⟩ := HB2.out.cell
    go_wp2_with fail
    refine (r6shapes_any F G p1 q1 m1 n1 sx sy w2 (HSX.out.ext hE2) (HSY.out.ext hE2) (by unfold lenMax; omega) HL.out).mono ?_
    rintro e w3 ⟨rfl, hE3⟩
    have hE4 := hE2.trans hE3
    clear s0 s1 s2 s3 t0 t1 t2 t3
    go_wp2_with fail
    go_ret
    exact ⟨ret_int HV2.out.symm, hE4⟩
  · have hc2 : (ct != 0) = true := by simpa using hc
    have HV2 := Lib.hid (show cv = ct by rw [HV.out, if_pos hc])
    clear hc
    go_wp2_with fail
    go_ret
    exact ⟨ret_int HV2.out.symm, hE2⟩

set_option maxRecDepth 100000 in
set_option maxHeartbeats 2000000 in
theorem rocompare_any (F G : Nat → Prop) (x y : Arr) (c0 c1 c2 c3 d0 d1 d2 d3 : Value) (w : World) (hx : ArrAt F w x c0 c1 c2 c3) (hy : ArrAt G w y d0 d1 d2 d3) :
    Calls Try.prog 49 #[.agg #[c0, c1, c2, c3], .agg #[d0, d1, d2, d3]] w fun e w' => e = .returned (.int .i64 (ocmpV x y)) ∧ Ext w w' := by
  obtain ⟨kx, sx, nx, ix⟩ := x
  obtain ⟨ky, sy, ny, iy⟩ := y
  have hx' := hx
  have hy' := hy
  unfold ArrAt at hx' hy'
  obtain ⟨rfl, hkx, ⟨p1, m1, rfl, ⟨o1, o1', o1''⟩, i1⟩, ⟨p2, m2, rfl, ⟨o2, o2', o2''⟩, i2⟩, ⟨p3, m3, rfl, ⟨o3, o3', o3''⟩, i3⟩⟩ := hx'
  obtain ⟨rfl, hky, ⟨q1, n1, rfl, ⟨r1, r1', r1''⟩, j1⟩, ⟨q2, n2, rfl, ⟨r2, r2', r2''⟩, j2⟩, ⟨q3, n3, rfl, ⟨r3, r3', r3''⟩, j3⟩⟩ := hy'
  have HX := Lib.hid hx
  have HY := Lib.hid hy
  have HSX := Lib.hid i1
  have HSY := Lib.hid j1
  clear hx hy i1 i2 i3 j1 j2 j3
  have HV : Hid (ocmpV (.mk kx sx nx ix) (.mk ky sy ny iy) = if rightV (.mk kx sx nx ix) ≠ 0 ∨ rightV (.mk ky sy ny iy) ≠ 0 then 0 else cmpF (szA (Arr.mk kx sx nx ix) + 1) (.mk kx sx nx ix) (.mk ky sy ny iy)) := rfl
  generalize ocmpV (.mk kx sx nx ix) (.mk ky sy ny iy) = ov at *
  have HCM := Lib.hid (fun (w' : World) (e : Ext w w') => rcompare_any F G _ (.mk kx sx nx ix) (.mk ky sy ny iy) _ _ _ _ _ _ _ _ w' (Nat.lt_succ_self _) (HX.out.ext e) (HY.out.ext e))
  go_enter Try.func49, Try.ntmps49
  go_wp2_with fail
  have hE0 : Ext w ((w.alloc (.cells #[.int .i64 kx, .slice p1 sx.length m1, .slice p2 nx.length m2, .slice p3 ix.length m3] 26)).alloc (.cells #[.int .i64 ky, .slice q1 sy.length n1, .slice q2 ny.length n2, .slice q3 iy.length n3] 26)) := ((Ext.refl _).alloc _).alloc _
  have hBX := (box_new w (.int .i64 kx) (.slice p1 sx.length m1) (.slice p2 nx.length m2) (.slice p3 ix.length m3)).ext ((Ext.refl _).alloc (.cells #[.int .i64 ky, .slice q1 sy.length n1, .slice q2 ny.length n2, .slice q3 iy.length n3] 26))
  have hBY := box_new (w.alloc (.cells #[.int .i64 kx, .slice p1 sx.length m1, .slice p2 nx.length m2, .slice p3 ix.length m3] 26)) (.int .i64 ky) (.slice q1 sy.length n1) (.slice q2 ny.length n2) (.slice q3 iy.length n3)
  rw [World.size_alloc] at hBY
  generalize ((w.alloc (.cells #[.int .i64 kx, .slice p1 sx.length m1, .slice p2 nx.length m2, .slice p3 ix.length m3] 26)).alloc (.cells #[.int .i64 ky, .slice q1 sy.length n1, .slice q2 ny.length n2, .slice q3 iy.length n3] 26)) = w1 at hE0 hBX hBY ⊢
  refine (rright6_any F _ _ _ _ _ w1 (HX.out.ext hE0)).mono ?_
  rintro e w2 ⟨rfl, hE1⟩
  have HBX := Lib.hid (hBX.ext hE1)
  have HBY := Lib.hid (hBY.ext hE1)
  have HE := Lib.hid (hE0.trans hE1)
  clear hBX hBY hE0 hE1
  generalize hr1 : rightV (.mk kx sx nx ix) = r1 at *
  by_cases h1 : r1 = 0
  rotate_left
  · have h1' : (r1 != 0) = true := by simpa using h1
    have HV2 := Lib.hid (show ov = 0 by rw [HV.out, if_pos (.inl h1)])
    clear h1
    go_wp2_with fail
    go_ret
    exact ⟨ret_int HV2.out.symm, HE.out⟩
  subst h1
  obtain ⟨t0, t1, t2, t3⟩ := HBY.out.cell
  go_wp2_with fail
  refine (rright6_any G _ _ _ _ _ w2 (HY.out.ext HE.out)).mono ?_
  rintro e w3 ⟨rfl, hE1⟩
  clear t0 t1 t2 t3
  replace HBX := Lib.hid (HBX.out.ext hE1)
  replace HBY := Lib.hid (HBY.out.ext hE1)
  replace HE := Lib.hid (HE.out.trans hE1)
  clear hE1
  generalize hr2 : rightV (.mk ky sy ny iy) = r2 at *
  by_cases h2 : r2 = 0
  rotate_left
  · have h2' : (r2 != 0) = true := by simpa using h2
    have HV2 := Lib.hid (show ov = 0 by rw [HV.out, if_pos (.inr h2)])
    clear h2
    go_wp2_with fail
    go_ret
    exact ⟨ret_int HV2.out.symm, HE.out⟩
  subst h2
  have HV2 := Lib.hid (show ov = cmpF (szA (Arr.mk kx sx nx ix) + 1) (.mk kx sx nx ix) (.mk ky sy ny iy) by rw [HV.out, if_neg (by simp)])
  have HCM2 := Lib.hid (HCM.out w3 HE.out (by simp) (by simp))
  clear HV HCM
  obtain ⟨s0, s1, s2, s3⟩ := HBX.out.cell
  obtain ⟨t0, t1, t2, t3⟩ := HBY.out.cell
  go_wp2_with fail
  refine HCM2.out.mono ?_
  rintro e w4 ⟨rfl, hE1⟩
  have hE2 := HE.out.trans hE1
  clear s0 s1 s2 s3 t0 t1 t2 t3 hE1
  go_wp2_with fail
  go_ret
  exact ⟨ret_int HV2.out.symm, hE2⟩
end Go.Proofs.Ytgkemmdghmklfaa
