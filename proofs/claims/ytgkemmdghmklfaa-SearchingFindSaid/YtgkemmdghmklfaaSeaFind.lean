/-
  THE WALK of law25.SearchingFind. (Printed by gen_slaws.py.)
-/
import Derived.Test.YtgkemmdghmklfaaSAwk
import Derived.Test.YtgkemmdghmklfaaM25P
namespace Go.Proofs.Ytgkemmdghmklfaa
set_option linter.unusedSimpArgs false
set_option linter.unusedVariables false
open Go.RowKit

theorem rfind_at {X : Nat → Prop} {w : World} {a b t : Arr} {n : Int} {v1 v2 : Value} (ex : searchV a b = t) (en : searchE a b = n) (h1 : RdX X w a v1) (h2 : RdX X w b v2) (hX : ∀ b, X b → b < w.heap.size) : Calls Try.prog 61 #[v1, v2] w fun e w' => ∃ x, e = .returned (.tuple #[x, .int .i64 n]) ∧ RdX X w' t x ∧ Ext w w' := by
  obtain ⟨c0, c1, c2, c3, rfl, hA⟩ := h1
  obtain ⟨d0, d1, d2, d3, rfl, hB⟩ := h2
  refine (rfind_any _ _ a b _ _ _ _ _ _ _ _ w hA hB).mono ?_
  rintro e w' ⟨e0, e1, e2, e3, rfl, hC, hE⟩
  rw [ex] at hC
  rw [en]
  exact ⟨_, rfl, RdX.new hC.arrB (fun b hb _ => .inl hb) hX, hE⟩
set_option maxRecDepth 100000 in
set_option maxHeartbeats 8000000 in
theorem seafind_any (F G : Nat → Prop) (x y : Arr) (c0 c1 c2 c3 d0 d1 d2 d3 : Value) (w : World) (hx : ArrAt F w x c0 c1 c2 c3) (hy : ArrAt G w y d0 d1 d2 d3) :
    Calls Try.prog 13 #[.agg #[c0, c1, c2, c3], .agg #[d0, d1, d2, d3]] w fun e w' => e = .returned (.bool true) ∧ Ext w w' := by
  have hx' := hx
  have hy' := hy
  obtain ⟨kx, q1, sx, m1, q2, nx, m2, q3, ix, m3, rfl, rfl, rfl, rfl⟩ := hx'.form
  obtain ⟨ky, r1, sy, n1, r2, ny, n2, r3, iy, n3, rfl, rfl, rfl, rfl⟩ := hy'.form
  have HX := Lib.hid hx
  have HY := Lib.hid hy
  clear hx hy hx' hy'
  go_enter Try.func13, Try.ntmps13
  go_upto_region 1 with (fail)
  have hE0 : Ext w ((w.alloc (.cells #[.int .i64 kx, .slice q1 sx m1, .slice q2 nx m2, .slice q3 ix m3] 26)).alloc (.cells #[.int .i64 ky, .slice r1 sy n1, .slice r2 ny n2, .slice r3 iy n3] 26)) := ((Ext.refl _).alloc _).alloc _
  have hBX := (box_new w (.int .i64 kx) (.slice q1 sx m1) (.slice q2 nx m2) (.slice q3 ix m3)).ext ((Ext.refl _).alloc (.cells #[.int .i64 ky, .slice r1 sy n1, .slice r2 ny n2, .slice r3 iy n3] 26))
  have hBY := box_new (w.alloc (.cells #[.int .i64 kx, .slice q1 sx m1, .slice q2 nx m2, .slice q3 ix m3] 26)) (.int .i64 ky) (.slice r1 sy n1) (.slice r2 ny n2) (.slice r3 iy n3)
  rw [World.size_alloc] at hBY
  have HAx := Lib.hid (HX.out.ext hE0)
  have HAy := Lib.hid (HY.out.ext hE0)
  generalize ((w.alloc (.cells #[.int .i64 kx, .slice q1 sx m1, .slice q2 nx m2, .slice q3 ix m3] 26)).alloc (.cells #[.int .i64 ky, .slice r1 sy n1, .slice r2 ny n2, .slice r3 iy n3] 26)) = w1 at hE0 hBX hBY HAx HAy ⊢
  have HBx := Lib.hid hBX
  have HBy := Lib.hid hBY
  have HE := Lib.hid hE0
  clear hBX hBY hE0 HX HY
  obtain ⟨s0, s1, s2, s3⟩ := HBx.out.cell
  go_wp2_with fail
  refine (small25_any _ _ _ _ _ _ w1 HAx.out).mono ?_
  rintro e w2 ⟨b1, rfl, hE1⟩
  replace HE := Lib.hid (HE.out.trans hE1)
  replace HBx := Lib.hid (HBx.out.ext hE1)
  replace HBy := Lib.hid (HBy.out.ext hE1)
  replace HAx := Lib.hid (HAx.out.ext hE1)
  replace HAy := Lib.hid (HAy.out.ext hE1)
  clear s0 s1 s2 s3 hE1
  obtain ⟨t0, t1, t2, t3⟩ := HBy.out.cell
  cases b1 with
  | false =>
    go_wp2_with fail
    refine (slives_any _).mono ?_
    rintro e wl ⟨rfl, hEl⟩
    have hEz := HE.out.trans hEl
    go_wp2_with fail
    go_ret
    exact ⟨rfl, hEz⟩
  | true =>
  go_wp2_with fail
  refine (small25_any _ _ _ _ _ _ w2 HAy.out).mono ?_
  rintro e w3 ⟨b1, rfl, hE1⟩
  replace HE := Lib.hid (HE.out.trans hE1)
  replace HBx := Lib.hid (HBx.out.ext hE1)
  replace HBy := Lib.hid (HBy.out.ext hE1)
  replace HAx := Lib.hid (HAx.out.ext hE1)
  replace HAy := Lib.hid (HAy.out.ext hE1)
  clear t0 t1 t2 t3 hE1
  cases b1 with
  | false =>
    go_wp2_with fail
    refine (slives_any _).mono ?_
    rintro e wl ⟨rfl, hEl⟩
    have hEz := HE.out.trans hEl
    go_wp2_with fail
    go_ret
    exact ⟨rfl, hEz⟩
  | true =>
  obtain ⟨sv, hsv⟩ : ∃ sv, searchV x y = sv := ⟨_, rfl⟩
  obtain ⟨se, hse⟩ : ∃ se, searchE x y = se := ⟨_, rfl⟩
  have HSV := Lib.hid hsv
  have HSE := Lib.hid hse
  clear hsv hse
  go_upto_region 3 with (fail)
  obtain ⟨sx0, sx1, sx2, sx3⟩ := HBx.out.cell
  obtain ⟨sy0, sy1, sy2, sy3⟩ := HBy.out.cell
  go_wp2_with fail
  refine (sfind_at HSV.out HSE.out (RdX.old (X := fun _ => False) HAx.out (Ext.refl _) (fun _ h => False.elim h)) (RdX.old (X := fun _ => False) HAy.out (Ext.refl _) (fun _ h => False.elim h)) (fun _ h => False.elim h)).mono ?_
  rintro e wf2 ⟨x1, rfl, hx1, hEx1⟩
  clear sx0 sx1 sx2 sx3 sy0 sy1 sy2 sy3
  obtain ⟨c0, c1, c2, c3, rfl, hA9⟩ := hx1
  obtain ⟨ky3, pay3, lay3, may3, pby3, lby3, mby3, pcy3, lcy3, mcy3, rfl, rfl, rfl, rfl⟩ := hA9.form
  have hEn := (((Ext.refl w3).trans hEx1)).alloc (.cells #[(.int .i64 ky3), (.slice pay3 lay3 may3), (.slice pby3 lby3 mby3), (.slice pcy3 lcy3 mcy3)] 26)
  have hBn := box_new wf2 (.int .i64 ky3) (.slice pay3 lay3 may3) (.slice pby3 lby3 mby3) (.slice pcy3 lcy3 mcy3)
  have hAn := hA9.ext ((Ext.refl _).alloc (.cells #[(.int .i64 ky3), (.slice pay3 lay3 may3), (.slice pby3 lby3 mby3), (.slice pcy3 lcy3 mcy3)] 26))
  clear hA9 hEx1
  have HF := Lib.hid (And.intro hEn (And.intro hBn hAn))
  clear hEn hBn hAn
  go_upto_region 4 with (fail)
  obtain ⟨hEn, hBn, hAn⟩ := HF.out
  clear HF
  generalize hbz : wf2.heap.size = by3 at *
  clear hbz
  generalize wf2.alloc (.cells #[(.int .i64 ky3), (.slice pay3 lay3 may3), (.slice pby3 lby3 mby3), (.slice pcy3 lcy3 mcy3)] 26) = wk4 at *
  replace HBx := Lib.hid (HBx.out.ext hEn)
  replace HAx := Lib.hid (HAx.out.ext hEn)
  replace HBy := Lib.hid (HBy.out.ext hEn)
  replace HAy := Lib.hid (HAy.out.ext hEn)
  replace HE := Lib.hid (HE.out.trans (hEn))
  have HBa := Lib.hid hBn
  have HAa := Lib.hid hAn
  clear hEn hBn hAn
  obtain ⟨sx0, sx1, sx2, sx3⟩ := HBx.out.cell
  obtain ⟨sy0, sy1, sy2, sy3⟩ := HBy.out.cell
  go_wp2_with fail
  refine (rfind_at HSV.out HSE.out (RdX.old (X := fun _ => False) HAx.out (Ext.refl _) (fun _ h => False.elim h)) (RdX.old (X := fun _ => False) HAy.out (Ext.refl _) (fun _ h => False.elim h)) (fun _ h => False.elim h)).mono ?_
  rintro e wf6 ⟨x5, rfl, hx5, hEx5⟩
  clear sx0 sx1 sx2 sx3 sy0 sy1 sy2 sy3
  obtain ⟨c0, c1, c2, c3, rfl, hA9⟩ := hx5
  obtain ⟨ky7, pay7, lay7, may7, pby7, lby7, mby7, pcy7, lcy7, mcy7, rfl, rfl, rfl, rfl⟩ := hA9.form
  have hEn := (((Ext.refl wk4).trans hEx5)).alloc (.cells #[(.int .i64 ky7), (.slice pay7 lay7 may7), (.slice pby7 lby7 mby7), (.slice pcy7 lcy7 mcy7)] 26)
  have hBn := box_new wf6 (.int .i64 ky7) (.slice pay7 lay7 may7) (.slice pby7 lby7 mby7) (.slice pcy7 lcy7 mcy7)
  have hAn := hA9.ext ((Ext.refl _).alloc (.cells #[(.int .i64 ky7), (.slice pay7 lay7 may7), (.slice pby7 lby7 mby7), (.slice pcy7 lcy7 mcy7)] 26))
  clear hA9 hEx5
  have HF := Lib.hid (And.intro hEn (And.intro hBn hAn))
  clear hEn hBn hAn
  go_upto_region 5 with (fail)
  obtain ⟨hEn, hBn, hAn⟩ := HF.out
  clear HF
  generalize hbz : wf6.heap.size = by7 at *
  clear hbz
  generalize wf6.alloc (.cells #[(.int .i64 ky7), (.slice pay7 lay7 may7), (.slice pby7 lby7 mby7), (.slice pcy7 lcy7 mcy7)] 26) = wk8 at *
  replace HBx := Lib.hid (HBx.out.ext hEn)
  replace HAx := Lib.hid (HAx.out.ext hEn)
  replace HBy := Lib.hid (HBy.out.ext hEn)
  replace HAy := Lib.hid (HAy.out.ext hEn)
  replace HBa := Lib.hid (HBa.out.ext hEn)
  replace HAa := Lib.hid (HAa.out.ext hEn)
  replace HE := Lib.hid (HE.out.trans (hEn))
  have HBb := Lib.hid hBn
  have HAb := Lib.hid hAn
  clear hEn hBn hAn
  obtain ⟨sa0, sa1, sa2, sa3⟩ := HBa.out.cell
  obtain ⟨sb0, sb1, sb2, sb3⟩ := HBb.out.cell
  go_wp2_with fail
  refine (same_true (Rd.mk HAa.out) (Rd.mk HAb.out) rfl rfl).mono ?_
  rintro e ws ⟨rfl, hEs⟩
  replace HE := Lib.hid (HE.out.trans hEs)
  clear hEs sa0 sa1 sa2 sa3 sb0 sb1 sb2 sb3
  go_wp2_with fail
  refine (slives_any _).mono ?_
  rintro e wl ⟨rfl, hEl⟩
  have hEz := HE.out.trans hEl
  go_wp2_with fail
  go_ret
  exact ⟨rfl, hEz⟩
end Go.Proofs.Ytgkemmdghmklfaa
