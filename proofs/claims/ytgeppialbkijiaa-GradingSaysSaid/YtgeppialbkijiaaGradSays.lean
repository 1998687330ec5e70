/-
  THE WALK of law24.GradingSays: it returns true, and turns nothing that was there. (Printed by gen_gradsays.py.)
-/
import Derived.Test.YtgeppialbkijiaaGAwk
namespace Go.Proofs.Ytgeppialbkijiaa
set_option linter.unusedSimpArgs false
set_option linter.unusedVariables false
open Go.RowKit

set_option maxRecDepth 100000 in
set_option maxHeartbeats 8000000 in
theorem gradsays_any (F : Nat → Prop) (x : Arr) (c0 c1 c2 c3 : Value) (w : World) (hx : ArrAt F w x c0 c1 c2 c3) :
    Calls Try.prog 7 #[.agg #[c0, c1, c2, c3]] w fun e w' => e = .returned (.bool true) ∧ Ext w w' := by
  obtain ⟨m, hR⟩ := rows_ok x
  have HR := Lib.hid hR
  have HX := Lib.hid hx
  obtain ⟨kx, p1, n1, m1, p2, n2, m2, p3, n3, m3, rfl, rfl, rfl, rfl⟩ := hx.form
  clear hx hR
  go_enter Try.func7, Try.ntmps7
  have hE0 : Ext w (w.alloc (.cells #[.int .i64 kx, .slice p1 n1 m1, .slice p2 n2 m2, .slice p3 n3 m3] 26)) := (Ext.refl _).alloc _
  have HBx := Lib.hid (box_new w (.int .i64 kx) (.slice p1 n1 m1) (.slice p2 n2 m2) (.slice p3 n3 m3))
  have HE := Lib.hid hE0
  clear hE0
  go_wp2_with fail
  generalize w.alloc (.cells #[.int .i64 kx, .slice p1 n1 m1, .slice p2 n2 m2, .slice p3 n3 m3] 26) = w1 at *
  refine (few24_any F x _ _ _ _ w1 (HX.out.ext HE.out)).mono ?_
  rintro e w2 ⟨⟨b, rfl⟩, hE1⟩
  replace HE := Lib.hid (HE.out.trans hE1)
  replace HBx := Lib.hid (HBx.out.ext hE1)
  clear hE1
  cases b with
  | false =>
    go_wp2_with fail
    refine (gawake_any _).mono ?_
    rintro e wl ⟨rfl, hEl⟩
    go_wp2_with fail
    go_ret
    exact ⟨rfl, HE.out.trans hEl⟩
  | true =>
  have HEV : ∃ ev, rowsE x = ev := ⟨_, rfl⟩
  obtain ⟨ev, hev⟩ := HEV
  have HEV := Lib.hid hev
  have hne : (ev != ev) = false := by simp
  have heq : (ev == ev) = true := by simp
  clear hev
  obtain ⟨s0, s1, s2, s3⟩ := HBx.out.cell
  go_wp2_with fail
  refine (up_any m F x _ _ _ _ w2 (HX.out.ext HE.out) HR.out).mono ?_
  rintro e wf1 ⟨d0, d1, d2, d3, rfl, hA, hE⟩
  rw [HEV.out]
  obtain ⟨ka1, paa1, laa1, maa1, pba1, lba1, mba1, pca1, lca1, mca1, rfl, rfl, rfl, rfl⟩ := hA.form
  clear s0 s1 s2 s3
  have hEn : Ext w2 (wf1.alloc (.cells #[(.int .i64 ka1), (.slice paa1 laa1 maa1), (.slice pba1 lba1 mba1), (.slice pca1 lca1 mca1)] 26)) := hE.alloc _
  have hBn := box_new wf1 (.int .i64 ka1) (.slice paa1 laa1 maa1) (.slice pba1 lba1 mba1) (.slice pca1 lca1 mca1)
  have hAn := hA.ext ((Ext.refl _).alloc (.cells #[(.int .i64 ka1), (.slice paa1 laa1 maa1), (.slice pba1 lba1 mba1), (.slice pca1 lca1 mca1)] 26))
  have hle : w.heap.size + 1 ≤ wf1.heap.size := by have h1 := hE.lt; have h2 := HBx.out.lt; omega
  replace HE := Lib.hid (HE.out.trans hEn)
  replace HBx := Lib.hid (HBx.out.ext hEn)
  have HBa := Lib.hid hBn
  have HAa := Lib.hid hAn
  have HLa := Lib.hid hle
  clear hEn hBn hAn hA hE hle
  go_upto_region 4 with (fail)
  generalize hbz : wf1.heap.size = ba at *
  clear hbz
  generalize wf1.alloc (.cells #[(.int .i64 ka1), (.slice paa1 laa1 maa1), (.slice pba1 lba1 mba1), (.slice pca1 lca1 mca1)] 26) = wk1 at *
  have HLTa := Lib.hid HBa.out.lt
  obtain ⟨s0, s1, s2, s3⟩ := HBx.out.cell
  go_wp2_with fail
  refine (rup_any m F x _ _ _ _ wk1 (HX.out.ext HE.out) HR.out).mono ?_
  rintro e wf2 ⟨d0, d1, d2, d3, rfl, hA, hE⟩
  rw [HEV.out]
  obtain ⟨kb2, pab2, lab2, mab2, pbb2, lbb2, mbb2, pcb2, lcb2, mcb2, rfl, rfl, rfl, rfl⟩ := hA.form
  clear s0 s1 s2 s3
  have hEn : Ext wk1 (wf2.alloc (.cells #[(.int .i64 kb2), (.slice pab2 lab2 mab2), (.slice pbb2 lbb2 mbb2), (.slice pcb2 lcb2 mcb2)] 26)) := hE.alloc _
  have hBn := box_new wf2 (.int .i64 kb2) (.slice pab2 lab2 mab2) (.slice pbb2 lbb2 mbb2) (.slice pcb2 lcb2 mcb2)
  have hAn := hA.ext ((Ext.refl _).alloc (.cells #[(.int .i64 kb2), (.slice pab2 lab2 mab2), (.slice pbb2 lbb2 mbb2), (.slice pcb2 lcb2 mcb2)] 26))
  have hle : w.heap.size + 1 ≤ wf2.heap.size := by have h1 := hE.lt; have h2 := HBx.out.lt; omega
  replace HE := Lib.hid (HE.out.trans hEn)
  replace HBx := Lib.hid (HBx.out.ext hEn)
  replace HBa := Lib.hid (HBa.out.ext hEn)
  replace HAa := Lib.hid (HAa.out.ext hEn)
  have HNab := Lib.hid (show ba ≠ wf2.heap.size by have h1 := HLTa.out; have h2 := hE.lt; omega)
  have HBb := Lib.hid hBn
  have HAb := Lib.hid hAn
  have HLb := Lib.hid hle
  clear hEn hBn hAn hA hE hle
  go_upto_region 5 with (fail)
  generalize hbz : wf2.heap.size = bb at *
  clear hbz
  generalize wf2.alloc (.cells #[(.int .i64 kb2), (.slice pab2 lab2 mab2), (.slice pbb2 lbb2 mbb2), (.slice pcb2 lcb2 mcb2)] 26) = wk2 at *
  have HLTb := Lib.hid HBb.out.lt
  replace HLTa := Lib.hid HBa.out.lt
  obtain ⟨sa0, sa1, sa2, sa3⟩ := HBa.out.cell
  obtain ⟨sb0, sb1, sb2, sb3⟩ := HBb.out.cell
  go_wp2_with fail
  refine (same_true (Rd.mk HAa.out) (Rd.mk HAb.out) rfl rfl).mono ?_
  rintro e wg1 ⟨rfl, hEg⟩
  replace HE := Lib.hid (HE.out.trans hEg)
  replace HBx := Lib.hid (HBx.out.ext hEg)
  replace HBa := Lib.hid (HBa.out.ext hEg)
  replace HBb := Lib.hid (HBb.out.ext hEg)
  replace HLTa := Lib.hid HBa.out.lt
  replace HLTb := Lib.hid HBb.out.lt
  clear HAa HAb sa0 sa1 sa2 sa3 sb0 sb1 sb2 sb3 hEg
  obtain ⟨s0, s1, s2, s3⟩ := HBx.out.cell
  go_wp2_with fail
  refine (down_any m F x _ _ _ _ wg1 (HX.out.ext HE.out) HR.out).mono ?_
  rintro e wf3 ⟨d0, d1, d2, d3, rfl, hA, hE⟩
  rw [HEV.out]
  obtain ⟨ka3, paa3, laa3, maa3, pba3, lba3, mba3, pca3, lca3, mca3, rfl, rfl, rfl, rfl⟩ := hA.form
  clear s0 s1 s2 s3
  have HE' := Lib.hid (HE.out.trans hE)
  have HBz := Lib.hid (HBa.out.ext hE)
  obtain ⟨x0, x1, x2, x3⟩ := HBz.out.cell
  have y0 := HBz.out.free 0
  have y1 := HBz.out.free 1
  have y2 := HBz.out.free 2
  have y3 := HBz.out.free 3
  have hWl := HLTa.out
  obtain ⟨g1, g2, g3⟩ := HBz.out.put4 HE'.out (by have := HLa.out; omega) (.int .i64 ka3) (.slice paa3 laa3 maa3) (.slice pba3 lba3 mba3) (.slice pca3 lca3 mca3)
  have hA2 := ArrAt.mono (G := fun q => q ≠ bb) (w' := ((((wf3.setCell ⟨ba, 0, none⟩ (.int .i64 ka3)).setCell ⟨ba, 1, none⟩ (.slice paa3 laa3 maa3)).setCell ⟨ba, 2, none⟩ (.slice pba3 lba3 mba3)).setCell ⟨ba, 3, none⟩ (.slice pca3 lca3 mca3))) (fun q hq _ => ⟨by have := HLTb.out; omega, g3 q (by omega)⟩) _ _ _ _ _ hA
  have hBx := (HBx.out.ext hE).kept (g3 w.heap.size (by have := HLa.out; omega))
  have hBb := (HBb.out.ext hE).kept (g3 bb (fun e => HNab.out e.symm))
  replace HE := Lib.hid g1
  replace HBx := Lib.hid hBx
  replace HBa := Lib.hid g2
  have HAa := Lib.hid hA2
  replace HBb := Lib.hid hBb
  clear hBb
  clear g1 g2 g3 hA2 hBx hA HE' HBz
  go_upto_region 8 with (fail)
  clear x0 x1 x2 x3 y0 y1 y2 y3 hWl hE
  generalize ((((wf3.setCell ⟨ba, 0, none⟩ (.int .i64 ka3)).setCell ⟨ba, 1, none⟩ (.slice paa3 laa3 maa3)).setCell ⟨ba, 2, none⟩ (.slice pba3 lba3 mba3)).setCell ⟨ba, 3, none⟩ (.slice pca3 lca3 mca3)) = wk3 at *
  replace HLTa := Lib.hid HBa.out.lt
  replace HLTb := Lib.hid HBb.out.lt
  obtain ⟨s0, s1, s2, s3⟩ := HBx.out.cell
  go_wp2_with fail
  refine (rdown_any m F x _ _ _ _ wk3 (HX.out.ext HE.out) HR.out).mono ?_
  rintro e wf4 ⟨d0, d1, d2, d3, rfl, hA, hE⟩
  rw [HEV.out]
  obtain ⟨kb4, pab4, lab4, mab4, pbb4, lbb4, mbb4, pcb4, lcb4, mcb4, rfl, rfl, rfl, rfl⟩ := hA.form
  clear s0 s1 s2 s3
  have HE' := Lib.hid (HE.out.trans hE)
  have HBz := Lib.hid (HBb.out.ext hE)
  obtain ⟨x0, x1, x2, x3⟩ := HBz.out.cell
  have y0 := HBz.out.free 0
  have y1 := HBz.out.free 1
  have y2 := HBz.out.free 2
  have y3 := HBz.out.free 3
  have hWl := HLTb.out
  obtain ⟨g1, g2, g3⟩ := HBz.out.put4 HE'.out (by have := HLb.out; omega) (.int .i64 kb4) (.slice pab4 lab4 mab4) (.slice pbb4 lbb4 mbb4) (.slice pcb4 lcb4 mcb4)
  have hA2 := ArrAt.mono (G := fun _ => True) (w' := ((((wf4.setCell ⟨bb, 0, none⟩ (.int .i64 kb4)).setCell ⟨bb, 1, none⟩ (.slice pab4 lab4 mab4)).setCell ⟨bb, 2, none⟩ (.slice pbb4 lbb4 mbb4)).setCell ⟨bb, 3, none⟩ (.slice pcb4 lcb4 mcb4))) (fun q hq _ => ⟨trivial, g3 q (by omega)⟩) _ _ _ _ _ hA
  have hAa := ArrAt.mono (G := fun _ => True) (w' := ((((wf4.setCell ⟨bb, 0, none⟩ (.int .i64 kb4)).setCell ⟨bb, 1, none⟩ (.slice pab4 lab4 mab4)).setCell ⟨bb, 2, none⟩ (.slice pbb4 lbb4 mbb4)).setCell ⟨bb, 3, none⟩ (.slice pcb4 lcb4 mcb4))) (fun q hq _ => ⟨trivial, g3 q hq⟩) _ _ _ _ _ (HAa.out.ext hE)
  have hBx := (HBx.out.ext hE).kept (g3 w.heap.size (by have := HLb.out; omega))
  have hBa := (HBa.out.ext hE).kept (g3 ba HNab.out)
  replace HE := Lib.hid g1
  replace HBx := Lib.hid hBx
  replace HBb := Lib.hid g2
  replace HBa := Lib.hid hBa
  replace HAa := Lib.hid hAa
  have HAb := Lib.hid hA2
  clear g1 g2 g3 hA2 hBx hBa hAa hA HE' HBz
  go_upto_region 9 with (fail)
  clear x0 x1 x2 x3 y0 y1 y2 y3 hWl hE
  generalize ((((wf4.setCell ⟨bb, 0, none⟩ (.int .i64 kb4)).setCell ⟨bb, 1, none⟩ (.slice pab4 lab4 mab4)).setCell ⟨bb, 2, none⟩ (.slice pbb4 lbb4 mbb4)).setCell ⟨bb, 3, none⟩ (.slice pcb4 lcb4 mcb4)) = wk4 at *
  replace HLTb := Lib.hid HBb.out.lt
  replace HLTa := Lib.hid HBa.out.lt
  obtain ⟨sa0, sa1, sa2, sa3⟩ := HBa.out.cell
  obtain ⟨sb0, sb1, sb2, sb3⟩ := HBb.out.cell
  go_wp2_with fail
  refine (same_true (Rd.mk HAa.out) (Rd.mk HAb.out) rfl rfl).mono ?_
  rintro e wg2 ⟨rfl, hEg⟩
  replace HE := Lib.hid (HE.out.trans hEg)
  replace HBx := Lib.hid (HBx.out.ext hEg)
  replace HBa := Lib.hid (HBa.out.ext hEg)
  replace HBb := Lib.hid (HBb.out.ext hEg)
  replace HLTa := Lib.hid HBa.out.lt
  replace HLTb := Lib.hid HBb.out.lt
  clear HAa HAb sa0 sa1 sa2 sa3 sb0 sb1 sb2 sb3 hEg
  obtain ⟨s0, s1, s2, s3⟩ := HBx.out.cell
  go_wp2_with fail
  refine (gsort_any m F x _ _ _ _ wg2 (HX.out.ext HE.out) HR.out).mono ?_
  rintro e wf5 ⟨d0, d1, d2, d3, rfl, hA, hE⟩
  rw [HEV.out]
  obtain ⟨ka5, paa5, laa5, maa5, pba5, lba5, mba5, pca5, lca5, mca5, rfl, rfl, rfl, rfl⟩ := hA.form
  clear s0 s1 s2 s3
  have HE' := Lib.hid (HE.out.trans hE)
  have HBz := Lib.hid (HBa.out.ext hE)
  obtain ⟨x0, x1, x2, x3⟩ := HBz.out.cell
  have y0 := HBz.out.free 0
  have y1 := HBz.out.free 1
  have y2 := HBz.out.free 2
  have y3 := HBz.out.free 3
  have hWl := HLTa.out
  obtain ⟨g1, g2, g3⟩ := HBz.out.put4 HE'.out (by have := HLa.out; omega) (.int .i64 ka5) (.slice paa5 laa5 maa5) (.slice pba5 lba5 mba5) (.slice pca5 lca5 mca5)
  have hA2 := ArrAt.mono (G := fun q => q ≠ bb) (w' := ((((wf5.setCell ⟨ba, 0, none⟩ (.int .i64 ka5)).setCell ⟨ba, 1, none⟩ (.slice paa5 laa5 maa5)).setCell ⟨ba, 2, none⟩ (.slice pba5 lba5 mba5)).setCell ⟨ba, 3, none⟩ (.slice pca5 lca5 mca5))) (fun q hq _ => ⟨by have := HLTb.out; omega, g3 q (by omega)⟩) _ _ _ _ _ hA
  have hBx := (HBx.out.ext hE).kept (g3 w.heap.size (by have := HLa.out; omega))
  have hBb := (HBb.out.ext hE).kept (g3 bb (fun e => HNab.out e.symm))
  replace HE := Lib.hid g1
  replace HBx := Lib.hid hBx
  replace HBa := Lib.hid g2
  have HAa := Lib.hid hA2
  replace HBb := Lib.hid hBb
  clear hBb
  clear g1 g2 g3 hA2 hBx hA HE' HBz
  go_upto_region 12 with (fail)
  clear x0 x1 x2 x3 y0 y1 y2 y3 hWl hE
  generalize ((((wf5.setCell ⟨ba, 0, none⟩ (.int .i64 ka5)).setCell ⟨ba, 1, none⟩ (.slice paa5 laa5 maa5)).setCell ⟨ba, 2, none⟩ (.slice pba5 lba5 mba5)).setCell ⟨ba, 3, none⟩ (.slice pca5 lca5 mca5)) = wk5 at *
  replace HLTa := Lib.hid HBa.out.lt
  replace HLTb := Lib.hid HBb.out.lt
  obtain ⟨s0, s1, s2, s3⟩ := HBx.out.cell
  go_wp2_with fail
  refine (rgsort_any m F x _ _ _ _ wk5 (HX.out.ext HE.out) HR.out).mono ?_
  rintro e wf6 ⟨d0, d1, d2, d3, rfl, hA, hE⟩
  rw [HEV.out]
  obtain ⟨kb6, pab6, lab6, mab6, pbb6, lbb6, mbb6, pcb6, lcb6, mcb6, rfl, rfl, rfl, rfl⟩ := hA.form
  clear s0 s1 s2 s3
  have HE' := Lib.hid (HE.out.trans hE)
  have HBz := Lib.hid (HBb.out.ext hE)
  obtain ⟨x0, x1, x2, x3⟩ := HBz.out.cell
  have y0 := HBz.out.free 0
  have y1 := HBz.out.free 1
  have y2 := HBz.out.free 2
  have y3 := HBz.out.free 3
  have hWl := HLTb.out
  obtain ⟨g1, g2, g3⟩ := HBz.out.put4 HE'.out (by have := HLb.out; omega) (.int .i64 kb6) (.slice pab6 lab6 mab6) (.slice pbb6 lbb6 mbb6) (.slice pcb6 lcb6 mcb6)
  have hA2 := ArrAt.mono (G := fun _ => True) (w' := ((((wf6.setCell ⟨bb, 0, none⟩ (.int .i64 kb6)).setCell ⟨bb, 1, none⟩ (.slice pab6 lab6 mab6)).setCell ⟨bb, 2, none⟩ (.slice pbb6 lbb6 mbb6)).setCell ⟨bb, 3, none⟩ (.slice pcb6 lcb6 mcb6))) (fun q hq _ => ⟨trivial, g3 q (by omega)⟩) _ _ _ _ _ hA
  have hAa := ArrAt.mono (G := fun _ => True) (w' := ((((wf6.setCell ⟨bb, 0, none⟩ (.int .i64 kb6)).setCell ⟨bb, 1, none⟩ (.slice pab6 lab6 mab6)).setCell ⟨bb, 2, none⟩ (.slice pbb6 lbb6 mbb6)).setCell ⟨bb, 3, none⟩ (.slice pcb6 lcb6 mcb6))) (fun q hq _ => ⟨trivial, g3 q hq⟩) _ _ _ _ _ (HAa.out.ext hE)
  have hBx := (HBx.out.ext hE).kept (g3 w.heap.size (by have := HLb.out; omega))
  have hBa := (HBa.out.ext hE).kept (g3 ba HNab.out)
  replace HE := Lib.hid g1
  replace HBx := Lib.hid hBx
  replace HBb := Lib.hid g2
  replace HBa := Lib.hid hBa
  replace HAa := Lib.hid hAa
  have HAb := Lib.hid hA2
  clear g1 g2 g3 hA2 hBx hBa hAa hA HE' HBz
  go_upto_region 13 with (fail)
  clear x0 x1 x2 x3 y0 y1 y2 y3 hWl hE
  generalize ((((wf6.setCell ⟨bb, 0, none⟩ (.int .i64 kb6)).setCell ⟨bb, 1, none⟩ (.slice pab6 lab6 mab6)).setCell ⟨bb, 2, none⟩ (.slice pbb6 lbb6 mbb6)).setCell ⟨bb, 3, none⟩ (.slice pcb6 lcb6 mcb6)) = wk6 at *
  replace HLTb := Lib.hid HBb.out.lt
  replace HLTa := Lib.hid HBa.out.lt
  obtain ⟨sa0, sa1, sa2, sa3⟩ := HBa.out.cell
  obtain ⟨sb0, sb1, sb2, sb3⟩ := HBb.out.cell
  go_wp2_with fail
  refine (same_true (Rd.mk HAa.out) (Rd.mk HAb.out) rfl rfl).mono ?_
  rintro e wg3 ⟨rfl, hEg⟩
  replace HE := Lib.hid (HE.out.trans hEg)
  replace HBx := Lib.hid (HBx.out.ext hEg)
  replace HBa := Lib.hid (HBa.out.ext hEg)
  replace HBb := Lib.hid (HBb.out.ext hEg)
  replace HLTa := Lib.hid HBa.out.lt
  replace HLTb := Lib.hid HBb.out.lt
  clear HAa HAb sa0 sa1 sa2 sa3 sb0 sb1 sb2 sb3 hEg
  go_wp2_with fail
  refine (gawake_any _).mono ?_
  rintro e wl ⟨rfl, hEl⟩
  go_wp2_with fail
  go_ret
  exact ⟨rfl, HE.out.trans hEl⟩
end Go.Proofs.Ytgeppialbkijiaa
