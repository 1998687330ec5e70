/-
  THE WALKS of law19.TakingTake and TakingDrop: each returns true, and turns nothing that was there. (Printed by gen_tktake.py.)
-/
import Derived.Test.YtcmnlnamgnbemaaLives
namespace Go.Proofs.Ytcmnlnamgnbemaa
set_option linter.unusedSimpArgs false
set_option linter.unusedVariables false
open Go.RowKit

set_option maxRecDepth 100000 in
set_option maxHeartbeats 8000000 in
theorem tktake_any (F G : Nat → Prop) (x y : Arr) (c0 c1 c2 c3 d0 d1 d2 d3 : Value) (w : World) (hx : ArrAt F w x c0 c1 c2 c3) (hy : ArrAt G w y d0 d1 d2 d3) :
    Calls Try.prog 10 #[.agg #[c0, c1, c2, c3], .agg #[d0, d1, d2, d3]] w fun e w' => e = .returned (.bool true) ∧ Ext w w' := by
  obtain ⟨kx, sx, nx, ix⟩ := x
  obtain ⟨ky, sy, ny, iy⟩ := y
  have hx' := hx
  have hy' := hy
  unfold ArrAt at hx' hy'
  obtain ⟨rfl, hkx, ⟨q1, m1, rfl, ⟨o1, o1', o1''⟩, i1⟩, ⟨q2, m2, rfl, ⟨o2, o2', o2''⟩, i2⟩, ⟨q3, m3, rfl, ⟨o3, o3', o3''⟩, i3⟩⟩ := hx'
  obtain ⟨rfl, hky, ⟨r1, n1, rfl, ⟨p1, p1', p1''⟩, j1⟩, ⟨r2, n2, rfl, ⟨p2, p2', p2''⟩, j2⟩, ⟨r3, n3, rfl, ⟨p3, p3', p3''⟩, j3⟩⟩ := hy'
  have HX := Lib.hid hx
  have HY := Lib.hid hy
  clear hx hy i1 i2 i3 j1 j2 j3
  go_enter Try.func10, Try.ntmps10
  go_wp2_with fail
  have hE0 : Ext w ((w.alloc (.cells #[.int .i64 kx, .slice q1 sx.length m1, .slice q2 nx.length m2, .slice q3 ix.length m3] 26)).alloc (.cells #[.int .i64 ky, .slice r1 sy.length n1, .slice r2 ny.length n2, .slice r3 iy.length n3] 26)) := ((Ext.refl _).alloc _).alloc _
  have hBX := (box_new w (.int .i64 kx) (.slice q1 sx.length m1) (.slice q2 nx.length m2) (.slice q3 ix.length m3)).ext ((Ext.refl _).alloc (.cells #[.int .i64 ky, .slice r1 sy.length n1, .slice r2 ny.length n2, .slice r3 iy.length n3] 26))
  have hBY := box_new (w.alloc (.cells #[.int .i64 kx, .slice q1 sx.length m1, .slice q2 nx.length m2, .slice q3 ix.length m3] 26)) (.int .i64 ky) (.slice r1 sy.length n1) (.slice r2 ny.length n2) (.slice r3 iy.length n3)
  rw [World.size_alloc] at hBY
  generalize ((w.alloc (.cells #[.int .i64 kx, .slice q1 sx.length m1, .slice q2 nx.length m2, .slice q3 ix.length m3] 26)).alloc (.cells #[.int .i64 ky, .slice r1 sy.length n1, .slice r2 ny.length n2, .slice r3 iy.length n3] 26)) = w1 at hE0 hBX hBY ⊢
  have HBX := Lib.hid hBX
  have HBY := Lib.hid hBY
  have HE0 := Lib.hid hE0
  clear hBX hBY hE0
  refine (brief_any _ _ _ _ _ _ _ _ _ _ _ _ w1 (HX.out.ext HE0.out) (HY.out.ext HE0.out)).mono ?_
  rintro e w3 ⟨b1, rfl, hE1⟩
  have HE3 := Lib.hid hE1
  clear hE1
  cases b1 with
  | false =>
    go_wp2_with fail
    refine (lives_any _).mono ?_
    rintro e wl ⟨rfl, hEl⟩
    go_wp2_with fail
    go_ret
    exact ⟨rfl, (HE0.out.trans HE3.out).trans hEl⟩
  | true =>

  have hAX := take_any _ _ (.mk kx sx nx ix) (.mk ky sy ny iy) _ _ _ _ _ _ _ _ w3 (HX.out.ext (HE0.out.trans HE3.out)) (HY.out.ext (HE0.out.trans HE3.out))
  have hRAX := fun w' e => rtake_any _ _ (.mk kx sx nx ix) (.mk ky sy ny iy) _ _ _ _ _ _ _ _ w' (HX.out.ext (w' := w') e) (HY.out.ext (w' := w') e)
  generalize takeV (.mk kx sx nx ix) (.mk ky sy ny iy) = res at *
  obtain ⟨rt, err⟩ := res
  dsimp only at hAX hRAX
  have HRAX := Lib.hid hRAX
  have HAX := Lib.hid hAX
  obtain ⟨s0, s1, s2, s3⟩ := (HBX.out.ext HE3.out).cell
  obtain ⟨t0, t1, t2, t3⟩ := (HBY.out.ext HE3.out).cell
  clear hAX hRAX
  go_wp2_with fail
  refine HAX.out.mono ?_
  rintro e w4 ⟨a0, a1, a2, a3, rfl, hA, hE5⟩
  clear HAX s0 s1 s2 s3 t0 t1 t2 t3
  obtain ⟨ka, ua, va, za, ub, vb, zb, uc, vc, zc, rfl, rfl, rfl, rfl⟩ := hA.form
  have hBA := box_new w4 (.int .i64 ka) (.slice ua va za) (.slice ub vb zb) (.slice uc vc zc)
  have HE6 := Lib.hid (HE3.out.trans (hE5.alloc (.cells #[.int .i64 ka, .slice ua va za, .slice ub vb zb, .slice uc vc zc] 26)))
  have HA6 := Lib.hid (hA.ext ((Ext.refl _).alloc (.cells #[.int .i64 ka, .slice ua va za, .slice ub vb zb, .slice uc vc zc] 26)))
  have HBA := Lib.hid hBA
  have hE34 := HE3.out.trans hE5
  obtain ⟨s0, s1, s2, s3⟩ := (HBX.out.ext hE34).cell
  obtain ⟨t0, t1, t2, t3⟩ := (HBY.out.ext hE34).cell
  have hl1 := (HBX.out.ext hE34).lt
  have hl2 := (HBY.out.ext hE34).lt
  clear hBA hA hE5 hE34
  go_wp2_with fail
  clear s0 s1 s2 s3 t0 t1 t2 t3 hl1 hl2
  generalize hba : w4.heap.size = ba at *
  clear hba
  generalize w4.alloc (.cells #[.int .i64 ka, .slice ua va za, .slice ub vb zb, .slice uc vc zc] 26) = w6 at HBA HE6 HA6 ⊢
  refine (HRAX.out w6 (HE0.out.trans HE6.out)).mono ?_
  rintro e w7 ⟨b0, b1, b2, b3, rfl, hB, hE8⟩
  obtain ⟨kb, xa, ya, wa, xb, yb, wb, xc, yc, wc, rfl, rfl, rfl, rfl⟩ := hB.form
  have hBB := box_new w7 (.int .i64 kb) (.slice xa ya wa) (.slice xb yb wb) (.slice xc yc wc)
  have hE9 := hE8.alloc (.cells #[.int .i64 kb, .slice xa ya wa, .slice xb yb wb, .slice xc yc wc] 26)
  have HE9 := Lib.hid (HE0.out.trans (HE6.out.trans hE9))
  have HA9 := Lib.hid (HA6.out.ext hE9)
  have HB9 := Lib.hid (hB.ext ((Ext.refl _).alloc (.cells #[.int .i64 kb, .slice xa ya wa, .slice xb yb wb, .slice xc yc wc] 26)))
  obtain ⟨s0, s1, s2, s3⟩ := (HBA.out.ext hE8).cell
  have hl1 := (HBA.out.ext hE8).lt
  have HL1 := Lib.hid hl1
  have hee : (err == err) = true := by simp
  clear hBB hE9 hB hE8 HRAX
  go_wp2_with fail
  refine (same_tr (Rd.mk HA9.out) (Rd.mk HB9.out) rfl rfl).mono ?_
  rintro e w8 ⟨rfl, hE10⟩
  have hE11 := HE9.out.trans hE10
  go_wp2_with fail
  refine (lives_any _).mono ?_
  rintro e w10 ⟨rfl, hE12⟩
  go_wp2_with fail
  go_ret
  exact ⟨rfl, hE11.trans hE12⟩

set_option maxRecDepth 100000 in
set_option maxHeartbeats 8000000 in
theorem tkdrop_any (F G : Nat → Prop) (x y : Arr) (c0 c1 c2 c3 d0 d1 d2 d3 : Value) (w : World) (hx : ArrAt F w x c0 c1 c2 c3) (hy : ArrAt G w y d0 d1 d2 d3) :
    Calls Try.prog 11 #[.agg #[c0, c1, c2, c3], .agg #[d0, d1, d2, d3]] w fun e w' => e = .returned (.bool true) ∧ Ext w w' := by
  obtain ⟨kx, sx, nx, ix⟩ := x
  obtain ⟨ky, sy, ny, iy⟩ := y
  have hx' := hx
  have hy' := hy
  unfold ArrAt at hx' hy'
  obtain ⟨rfl, hkx, ⟨q1, m1, rfl, ⟨o1, o1', o1''⟩, i1⟩, ⟨q2, m2, rfl, ⟨o2, o2', o2''⟩, i2⟩, ⟨q3, m3, rfl, ⟨o3, o3', o3''⟩, i3⟩⟩ := hx'
  obtain ⟨rfl, hky, ⟨r1, n1, rfl, ⟨p1, p1', p1''⟩, j1⟩, ⟨r2, n2, rfl, ⟨p2, p2', p2''⟩, j2⟩, ⟨r3, n3, rfl, ⟨p3, p3', p3''⟩, j3⟩⟩ := hy'
  have HX := Lib.hid hx
  have HY := Lib.hid hy
  clear hx hy i1 i2 i3 j1 j2 j3
  go_enter Try.func11, Try.ntmps11
  go_wp2_with fail
  have hE0 : Ext w ((w.alloc (.cells #[.int .i64 kx, .slice q1 sx.length m1, .slice q2 nx.length m2, .slice q3 ix.length m3] 26)).alloc (.cells #[.int .i64 ky, .slice r1 sy.length n1, .slice r2 ny.length n2, .slice r3 iy.length n3] 26)) := ((Ext.refl _).alloc _).alloc _
  have hBX := (box_new w (.int .i64 kx) (.slice q1 sx.length m1) (.slice q2 nx.length m2) (.slice q3 ix.length m3)).ext ((Ext.refl _).alloc (.cells #[.int .i64 ky, .slice r1 sy.length n1, .slice r2 ny.length n2, .slice r3 iy.length n3] 26))
  have hBY := box_new (w.alloc (.cells #[.int .i64 kx, .slice q1 sx.length m1, .slice q2 nx.length m2, .slice q3 ix.length m3] 26)) (.int .i64 ky) (.slice r1 sy.length n1) (.slice r2 ny.length n2) (.slice r3 iy.length n3)
  rw [World.size_alloc] at hBY
  generalize ((w.alloc (.cells #[.int .i64 kx, .slice q1 sx.length m1, .slice q2 nx.length m2, .slice q3 ix.length m3] 26)).alloc (.cells #[.int .i64 ky, .slice r1 sy.length n1, .slice r2 ny.length n2, .slice r3 iy.length n3] 26)) = w1 at hE0 hBX hBY ⊢
  have HBX := Lib.hid hBX
  have HBY := Lib.hid hBY
  have HE0 := Lib.hid hE0
  clear hBX hBY hE0
  refine (small_any _ _ _ _ _ _ w1 (HX.out.ext HE0.out)).mono ?_
  rintro e w2 ⟨b1, rfl, hE1⟩
  have HE2 := Lib.hid hE1
  clear hE1
  cases b1 with
  | false =>
    go_wp2_with fail
    refine (lives_any _).mono ?_
    rintro e wl ⟨rfl, hEl⟩
    go_wp2_with fail
    go_ret
    exact ⟨rfl, (HE0.out.trans HE2.out).trans hEl⟩
  | true =>
  obtain ⟨t0, t1, t2, t3⟩ := (HBY.out.ext HE2.out).cell
  go_wp2_with fail
  refine (small_any _ _ _ _ _ _ w2 (HY.out.ext (HE0.out.trans HE2.out))).mono ?_
  rintro e w3 ⟨b2, rfl, hE1⟩
  have HE3 := Lib.hid (HE2.out.trans hE1)
  clear hE1 t0 t1 t2 t3
  cases b2 with
  | false =>
    go_wp2_with fail
    refine (lives_any _).mono ?_
    rintro e wl ⟨rfl, hEl⟩
    go_wp2_with fail
    go_ret
    exact ⟨rfl, (HE0.out.trans HE3.out).trans hEl⟩
  | true =>

  have hAX := drop_any _ _ (.mk kx sx nx ix) (.mk ky sy ny iy) _ _ _ _ _ _ _ _ w3 (HX.out.ext (HE0.out.trans HE3.out)) (HY.out.ext (HE0.out.trans HE3.out))
  have hRAX := fun w' e => rdrop_any _ _ (.mk kx sx nx ix) (.mk ky sy ny iy) _ _ _ _ _ _ _ _ w' (HX.out.ext (w' := w') e) (HY.out.ext (w' := w') e)
  generalize dropV (.mk kx sx nx ix) (.mk ky sy ny iy) = res at *
  obtain ⟨rt, err⟩ := res
  dsimp only at hAX hRAX
  have HRAX := Lib.hid hRAX
  have HAX := Lib.hid hAX
  obtain ⟨s0, s1, s2, s3⟩ := (HBX.out.ext HE3.out).cell
  obtain ⟨t0, t1, t2, t3⟩ := (HBY.out.ext HE3.out).cell
  clear hAX hRAX
  go_wp2_with fail
  refine HAX.out.mono ?_
  rintro e w4 ⟨a0, a1, a2, a3, rfl, hA, hE5⟩
  clear HAX s0 s1 s2 s3 t0 t1 t2 t3
  obtain ⟨ka, ua, va, za, ub, vb, zb, uc, vc, zc, rfl, rfl, rfl, rfl⟩ := hA.form
  have hBA := box_new w4 (.int .i64 ka) (.slice ua va za) (.slice ub vb zb) (.slice uc vc zc)
  have HE6 := Lib.hid (HE3.out.trans (hE5.alloc (.cells #[.int .i64 ka, .slice ua va za, .slice ub vb zb, .slice uc vc zc] 26)))
  have HA6 := Lib.hid (hA.ext ((Ext.refl _).alloc (.cells #[.int .i64 ka, .slice ua va za, .slice ub vb zb, .slice uc vc zc] 26)))
  have HBA := Lib.hid hBA
  have hE34 := HE3.out.trans hE5
  obtain ⟨s0, s1, s2, s3⟩ := (HBX.out.ext hE34).cell
  obtain ⟨t0, t1, t2, t3⟩ := (HBY.out.ext hE34).cell
  have hl1 := (HBX.out.ext hE34).lt
  have hl2 := (HBY.out.ext hE34).lt
  clear hBA hA hE5 hE34
  go_wp2_with fail
  clear s0 s1 s2 s3 t0 t1 t2 t3 hl1 hl2
  generalize hba : w4.heap.size = ba at *
  clear hba
  generalize w4.alloc (.cells #[.int .i64 ka, .slice ua va za, .slice ub vb zb, .slice uc vc zc] 26) = w6 at HBA HE6 HA6 ⊢
  refine (HRAX.out w6 (HE0.out.trans HE6.out)).mono ?_
  rintro e w7 ⟨b0, b1, b2, b3, rfl, hB, hE8⟩
  obtain ⟨kb, xa, ya, wa, xb, yb, wb, xc, yc, wc, rfl, rfl, rfl, rfl⟩ := hB.form
  have hBB := box_new w7 (.int .i64 kb) (.slice xa ya wa) (.slice xb yb wb) (.slice xc yc wc)
  have hE9 := hE8.alloc (.cells #[.int .i64 kb, .slice xa ya wa, .slice xb yb wb, .slice xc yc wc] 26)
  have HE9 := Lib.hid (HE0.out.trans (HE6.out.trans hE9))
  have HA9 := Lib.hid (HA6.out.ext hE9)
  have HB9 := Lib.hid (hB.ext ((Ext.refl _).alloc (.cells #[.int .i64 kb, .slice xa ya wa, .slice xb yb wb, .slice xc yc wc] 26)))
  obtain ⟨s0, s1, s2, s3⟩ := (HBA.out.ext hE8).cell
  have hl1 := (HBA.out.ext hE8).lt
  have HL1 := Lib.hid hl1
  have hee : (err == err) = true := by simp
  clear hBB hE9 hB hE8 HRAX
  go_wp2_with fail
  refine (same_tr (Rd.mk HA9.out) (Rd.mk HB9.out) rfl rfl).mono ?_
  rintro e w8 ⟨rfl, hE10⟩
  have hE11 := HE9.out.trans hE10
  go_wp2_with fail
  refine (lives_any _).mono ?_
  rintro e w10 ⟨rfl, hE12⟩
  go_wp2_with fail
  go_ret
  exact ⟨rfl, hE11.trans hE12⟩

end Go.Proofs.Ytcmnlnamgnbemaa
