/-
  THE WALK of law27.RadixSays: it returns true, and turns nothing that was there. (Printed by gen_radsays.py.)
-/
import Derived.Test.YtmpjnjhiklaofaaRadAwk
import Derived.Test.YtmpjnjhiklaofaaFew
namespace Go.Proofs.Ytmpjnjhiklaofaa
set_option linter.unusedSimpArgs false
set_option linter.unusedVariables false
open Go.RowKit

set_option maxRecDepth 100000 in
set_option maxHeartbeats 8000000 in
theorem radsays_any (F G : Nat → Prop) (x y : Arr) (c0 c1 c2 c3 d0 d1 d2 d3 : Value) (w : World) (hx : ArrAt F w x c0 c1 c2 c3) (hy : ArrAt G w y d0 d1 d2 d3) :
    Calls Try.prog 3 #[.agg #[c0, c1, c2, c3], .agg #[d0, d1, d2, d3]] w fun e w' => e = .returned (.bool true) ∧ Ext w w' := by
  have hx' := hx
  have hy' := hy
  obtain ⟨kx, q1, sx, m1, q2, nx, m2, q3, ix, m3, rfl, rfl, rfl, rfl⟩ := hx'.form
  obtain ⟨ky, r1, sy, n1, r2, ny, n2, r3, iy, n3, rfl, rfl, rfl, rfl⟩ := hy'.form
  have HX := Lib.hid hx
  have HY := Lib.hid hy
  clear hx hy hx' hy'
  go_enter Try.func3, Try.ntmps3
  go_upto_region 1 with (fail)
  have hE0 : Ext w ((w.alloc (.cells #[.int .i64 kx, .slice q1 sx m1, .slice q2 nx m2, .slice q3 ix m3] 26)).alloc (.cells #[.int .i64 ky, .slice r1 sy n1, .slice r2 ny n2, .slice r3 iy n3] 26)) := ((Ext.refl _).alloc _).alloc _
  have hBX := (box_new w (.int .i64 kx) (.slice q1 sx m1) (.slice q2 nx m2) (.slice q3 ix m3)).ext ((Ext.refl _).alloc (.cells #[.int .i64 ky, .slice r1 sy n1, .slice r2 ny n2, .slice r3 iy n3] 26))
  have hBY := box_new (w.alloc (.cells #[.int .i64 kx, .slice q1 sx m1, .slice q2 nx m2, .slice q3 ix m3] 26)) (.int .i64 ky) (.slice r1 sy n1) (.slice r2 ny n2) (.slice r3 iy n3)
  rw [World.size_alloc] at hBY
  have HAx := Lib.hid (HX.out.ext hE0)
  have HAy := Lib.hid (HY.out.ext hE0)
  generalize ((w.alloc (.cells #[.int .i64 kx, .slice q1 sx m1, .slice q2 nx m2, .slice q3 ix m3] 26)).alloc (.cells #[.int .i64 ky, .slice r1 sy n1, .slice r2 ny n2, .slice r3 iy n3] 26)) = w1 at hE0 hBX hBY HAx HAy ⊢
  have HBx := Lib.hid hBX
  have HBy := Lib.hid hBY
  have HE := Lib.hid hE0
  clear hBX hBY hE0 HX HY
  obtain ⟨s0, s1, s2, s3⟩ := HBx.out.cell
  obtain ⟨t0, t1, t2, t3⟩ := HBy.out.cell
  go_wp2_with fail
  refine (few_any _ _ _ _ _ _ 30 w1 HAx.out).mono ?_
  rintro e w2 ⟨rfl, hE1⟩
  replace HE := Lib.hid (HE.out.trans hE1)
  replace HBx := Lib.hid (HBx.out.ext hE1)
  replace HBy := Lib.hid (HBy.out.ext hE1)
  replace HAx := Lib.hid (HAx.out.ext hE1)
  replace HAy := Lib.hid (HAy.out.ext hE1)
  clear s0 s1 s2 s3 t0 t1 t2 t3 hE1
  obtain ⟨t0, t1, t2, t3⟩ := HBy.out.cell
  cases hf1 : fewV x 30 with
  | false =>
    clear hf1
    go_wp2_with fail
    refine (radawake_any _).mono ?_
    rintro e wl ⟨rfl, hEl⟩
    go_wp2_with fail
    go_ret
    exact ⟨rfl, HE.out.trans hEl⟩
  | true =>
  clear hf1
  go_wp2_with fail
  refine (few_any _ _ _ _ _ _ 300 w2 HAy.out).mono ?_
  rintro e w3 ⟨rfl, hE1⟩
  replace HE := Lib.hid (HE.out.trans hE1)
  replace HBx := Lib.hid (HBx.out.ext hE1)
  replace HBy := Lib.hid (HBy.out.ext hE1)
  replace HAx := Lib.hid (HAx.out.ext hE1)
  replace HAy := Lib.hid (HAy.out.ext hE1)
  clear t0 t1 t2 t3 hE1
  cases hf1 : fewV y 300 with
  | false =>
    clear hf1
    go_wp2_with fail
    refine (radawake_any _).mono ?_
    rintro e wl ⟨rfl, hEl⟩
    go_wp2_with fail
    go_ret
    exact ⟨rfl, HE.out.trans hEl⟩
  | true =>
  clear hf1
  go_upto_region 3 with (fail)
  generalize henc : encV x y = re
  generalize hdec : decV x y = rd
  obtain ⟨te, ee⟩ := re
  obtain ⟨td, ed⟩ := rd
  have HENC := Lib.hid henc
  have HDEC := Lib.hid hdec
  clear henc hdec
  obtain ⟨sx0, sx1, sx2, sx3⟩ := HBx.out.cell
  obtain ⟨sy0, sy1, sy2, sy3⟩ := HBy.out.cell
  go_wp2_with fail
  refine (enc_at HENC.out (RdX.old (X := fun _ => False) HAx.out (Ext.refl _) (fun _ h => False.elim h)) (RdX.old (X := fun _ => False) HAy.out (Ext.refl _) (fun _ h => False.elim h)) (fun _ h => False.elim h)).mono ?_
  rintro e wf2 ⟨x1, rfl, hx1, hEx1⟩
  clear sx0 sx1 sx2 sx3 sy0 sy1 sy2 sy3
  obtain ⟨c0, c1, c2, c3, rfl, hA9⟩ := hx1
  obtain ⟨kx1, pax1, lax1, max1, pbx1, lbx1, mbx1, pcx1, lcx1, mcx1, rfl, rfl, rfl, rfl⟩ := hA9.form
  have hEn := ((Ext.refl w3).trans hEx1).alloc (.cells #[(.int .i64 kx1), (.slice pax1 lax1 max1), (.slice pbx1 lbx1 mbx1), (.slice pcx1 lcx1 mcx1)] 26)
  have hBn := box_new wf2 (.int .i64 kx1) (.slice pax1 lax1 max1) (.slice pbx1 lbx1 mbx1) (.slice pcx1 lcx1 mcx1)
  have hAn := hA9.ext ((Ext.refl _).alloc (.cells #[(.int .i64 kx1), (.slice pax1 lax1 max1), (.slice pbx1 lbx1 mbx1), (.slice pcx1 lcx1 mcx1)] 26))
  clear hA9 hEx1
  have HF := Lib.hid (And.intro hEn (And.intro hBn hAn))
  clear hEn hBn hAn
  go_upto_region 4 with (fail)
  obtain ⟨hEn, hBn, hAn⟩ := HF.out
  clear HF
  generalize hbz : wf2.heap.size = bx1 at *
  clear hbz
  generalize wf2.alloc (.cells #[(.int .i64 kx1), (.slice pax1 lax1 max1), (.slice pbx1 lbx1 mbx1), (.slice pcx1 lcx1 mcx1)] 26) = wk3 at *
  replace HBx := Lib.hid (HBx.out.ext hEn)
  replace HAx := Lib.hid (HAx.out.ext hEn)
  replace HBy := Lib.hid (HBy.out.ext hEn)
  replace HAy := Lib.hid (HAy.out.ext hEn)
  replace HE := Lib.hid (HE.out.trans (hEn))
  have HBa := Lib.hid hBn
  have HAa := Lib.hid hAn
  clear hEn hBn hAn
  obtain ⟨sx0, sx1, sx2, sx3⟩ := HBx.out.cell
  obtain ⟨sy0, sy1, sy2, sy3⟩ := HBy.out.cell
  go_wp2_with fail
  refine (renc_at HENC.out (RdX.old (X := fun _ => False) HAx.out (Ext.refl _) (fun _ h => False.elim h)) (RdX.old (X := fun _ => False) HAy.out (Ext.refl _) (fun _ h => False.elim h)) (fun _ h => False.elim h)).mono ?_
  rintro e wf5 ⟨x4, rfl, hx4, hEx4⟩
  clear sx0 sx1 sx2 sx3 sy0 sy1 sy2 sy3
  obtain ⟨c0, c1, c2, c3, rfl, hA9⟩ := hx4
  obtain ⟨kx4, pax4, lax4, max4, pbx4, lbx4, mbx4, pcx4, lcx4, mcx4, rfl, rfl, rfl, rfl⟩ := hA9.form
  have hEn := ((Ext.refl wk3).trans hEx4).alloc (.cells #[(.int .i64 kx4), (.slice pax4 lax4 max4), (.slice pbx4 lbx4 mbx4), (.slice pcx4 lcx4 mcx4)] 26)
  have hBn := box_new wf5 (.int .i64 kx4) (.slice pax4 lax4 max4) (.slice pbx4 lbx4 mbx4) (.slice pcx4 lcx4 mcx4)
  have hAn := hA9.ext ((Ext.refl _).alloc (.cells #[(.int .i64 kx4), (.slice pax4 lax4 max4), (.slice pbx4 lbx4 mbx4), (.slice pcx4 lcx4 mcx4)] 26))
  clear hA9 hEx4
  have HF := Lib.hid (And.intro hEn (And.intro hBn hAn))
  clear hEn hBn hAn
  go_upto_region 5 with (fail)
  obtain ⟨hEn, hBn, hAn⟩ := HF.out
  clear HF
  generalize hbz : wf5.heap.size = bx4 at *
  clear hbz
  generalize wf5.alloc (.cells #[(.int .i64 kx4), (.slice pax4 lax4 max4), (.slice pbx4 lbx4 mbx4), (.slice pcx4 lcx4 mcx4)] 26) = wk6 at *
  replace HBx := Lib.hid (HBx.out.ext hEn)
  replace HAx := Lib.hid (HAx.out.ext hEn)
  replace HBy := Lib.hid (HBy.out.ext hEn)
  replace HAy := Lib.hid (HAy.out.ext hEn)
  replace HBa := Lib.hid (HBa.out.ext hEn)
  replace HAa := Lib.hid (HAa.out.ext hEn)
  replace HE := Lib.hid (HE.out.trans (hEn))
  have HBb := Lib.hid hBn
  have HAb := Lib.hid hAn
  clear hEn hBn hAn
  obtain ⟨sx0, sx1, sx2, sx3⟩ := HBx.out.cell
  obtain ⟨sy0, sy1, sy2, sy3⟩ := HBy.out.cell
  go_wp2_with fail
  refine (dec_at HDEC.out (RdX.old (X := fun _ => False) HAx.out (Ext.refl _) (fun _ h => False.elim h)) (RdX.old (X := fun _ => False) HAy.out (Ext.refl _) (fun _ h => False.elim h)) (fun _ h => False.elim h)).mono ?_
  rintro e wf8 ⟨x7, rfl, hx7, hEx7⟩
  clear sx0 sx1 sx2 sx3 sy0 sy1 sy2 sy3
  obtain ⟨c0, c1, c2, c3, rfl, hA9⟩ := hx7
  obtain ⟨kx7, pax7, lax7, max7, pbx7, lbx7, mbx7, pcx7, lcx7, mcx7, rfl, rfl, rfl, rfl⟩ := hA9.form
  have hEn := ((Ext.refl wk6).trans hEx7).alloc (.cells #[(.int .i64 kx7), (.slice pax7 lax7 max7), (.slice pbx7 lbx7 mbx7), (.slice pcx7 lcx7 mcx7)] 26)
  have hBn := box_new wf8 (.int .i64 kx7) (.slice pax7 lax7 max7) (.slice pbx7 lbx7 mbx7) (.slice pcx7 lcx7 mcx7)
  have hAn := hA9.ext ((Ext.refl _).alloc (.cells #[(.int .i64 kx7), (.slice pax7 lax7 max7), (.slice pbx7 lbx7 mbx7), (.slice pcx7 lcx7 mcx7)] 26))
  clear hA9 hEx7
  have HF := Lib.hid (And.intro hEn (And.intro hBn hAn))
  clear hEn hBn hAn
  go_upto_region 6 with (fail)
  obtain ⟨hEn, hBn, hAn⟩ := HF.out
  clear HF
  generalize hbz : wf8.heap.size = bx7 at *
  clear hbz
  generalize wf8.alloc (.cells #[(.int .i64 kx7), (.slice pax7 lax7 max7), (.slice pbx7 lbx7 mbx7), (.slice pcx7 lcx7 mcx7)] 26) = wk9 at *
  replace HBx := Lib.hid (HBx.out.ext hEn)
  replace HAx := Lib.hid (HAx.out.ext hEn)
  replace HBy := Lib.hid (HBy.out.ext hEn)
  replace HAy := Lib.hid (HAy.out.ext hEn)
  replace HBa := Lib.hid (HBa.out.ext hEn)
  replace HAa := Lib.hid (HAa.out.ext hEn)
  replace HBb := Lib.hid (HBb.out.ext hEn)
  replace HAb := Lib.hid (HAb.out.ext hEn)
  replace HE := Lib.hid (HE.out.trans (hEn))
  have HBc := Lib.hid hBn
  have HAc := Lib.hid hAn
  clear hEn hBn hAn
  obtain ⟨sx0, sx1, sx2, sx3⟩ := HBx.out.cell
  obtain ⟨sy0, sy1, sy2, sy3⟩ := HBy.out.cell
  go_wp2_with fail
  refine (rdec_at HDEC.out (RdX.old (X := fun _ => False) HAx.out (Ext.refl _) (fun _ h => False.elim h)) (RdX.old (X := fun _ => False) HAy.out (Ext.refl _) (fun _ h => False.elim h)) (fun _ h => False.elim h)).mono ?_
  rintro e wf11 ⟨x10, rfl, hx10, hEx10⟩
  clear sx0 sx1 sx2 sx3 sy0 sy1 sy2 sy3
  obtain ⟨c0, c1, c2, c3, rfl, hA9⟩ := hx10
  obtain ⟨kx10, pax10, lax10, max10, pbx10, lbx10, mbx10, pcx10, lcx10, mcx10, rfl, rfl, rfl, rfl⟩ := hA9.form
  have hEn := ((Ext.refl wk9).trans hEx10).alloc (.cells #[(.int .i64 kx10), (.slice pax10 lax10 max10), (.slice pbx10 lbx10 mbx10), (.slice pcx10 lcx10 mcx10)] 26)
  have hBn := box_new wf11 (.int .i64 kx10) (.slice pax10 lax10 max10) (.slice pbx10 lbx10 mbx10) (.slice pcx10 lcx10 mcx10)
  have hAn := hA9.ext ((Ext.refl _).alloc (.cells #[(.int .i64 kx10), (.slice pax10 lax10 max10), (.slice pbx10 lbx10 mbx10), (.slice pcx10 lcx10 mcx10)] 26))
  clear hA9 hEx10
  have HF := Lib.hid (And.intro hEn (And.intro hBn hAn))
  clear hEn hBn hAn
  go_upto_region 7 with (fail)
  obtain ⟨hEn, hBn, hAn⟩ := HF.out
  clear HF
  generalize hbz : wf11.heap.size = bx10 at *
  clear hbz
  generalize wf11.alloc (.cells #[(.int .i64 kx10), (.slice pax10 lax10 max10), (.slice pbx10 lbx10 mbx10), (.slice pcx10 lcx10 mcx10)] 26) = wk12 at *
  replace HBx := Lib.hid (HBx.out.ext hEn)
  replace HAx := Lib.hid (HAx.out.ext hEn)
  replace HBy := Lib.hid (HBy.out.ext hEn)
  replace HAy := Lib.hid (HAy.out.ext hEn)
  replace HBa := Lib.hid (HBa.out.ext hEn)
  replace HAa := Lib.hid (HAa.out.ext hEn)
  replace HBb := Lib.hid (HBb.out.ext hEn)
  replace HAb := Lib.hid (HAb.out.ext hEn)
  replace HBc := Lib.hid (HBc.out.ext hEn)
  replace HAc := Lib.hid (HAc.out.ext hEn)
  replace HE := Lib.hid (HE.out.trans (hEn))
  have HBd := Lib.hid hBn
  have HAd := Lib.hid hAn
  clear hEn hBn hAn
  have h1 : (ee == ee) = true := by simp
  have h2 : (ed == ed) = true := by simp
  obtain ⟨sa0, sa1, sa2, sa3⟩ := HBa.out.cell
  obtain ⟨sb0, sb1, sb2, sb3⟩ := HBb.out.cell
  obtain ⟨sc0, sc1, sc2, sc3⟩ := HBc.out.cell
  obtain ⟨sd0, sd1, sd2, sd3⟩ := HBd.out.cell
  go_wp2_with fail
  refine (same_true (Rd.mk HAa.out) (Rd.mk HAb.out) rfl rfl).mono ?_
  rintro e wg ⟨rfl, hEg⟩
  replace sc0 := hEg.cell sc0
  replace sc1 := hEg.cell sc1
  replace sc2 := hEg.cell sc2
  replace sc3 := hEg.cell sc3
  replace sd0 := hEg.cell sd0
  replace sd1 := hEg.cell sd1
  replace sd2 := hEg.cell sd2
  replace sd3 := hEg.cell sd3
  clear sa0 sa1 sa2 sa3 sb0 sb1 sb2 sb3
  go_wp2_with fail
  refine (same_true (Rd.mk (HAc.out.ext hEg)) (Rd.mk (HAd.out.ext hEg)) rfl rfl).mono ?_
  rintro e wh ⟨rfl, hEh⟩
  go_wp2_with fail
  refine (radawake_any _).mono ?_
  rintro e wl ⟨rfl, hEl⟩
  go_wp2_with fail
  go_ret
  exact ⟨rfl, ((HE.out.trans hEg).trans hEh).trans hEl⟩
end Go.Proofs.Ytmpjnjhiklaofaa
