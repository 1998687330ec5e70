/-
  THE WALK of radix.Encode. (Printed by gen_enc.py.)
-/
import Derived.Test.YtmpjnjhiklaofaaRadLaw
import Derived.Test.YtmpjnjhiklaofaaRad4
import Derived.Test.YtmpjnjhiklaofaaMkB
import Derived.Test.YtmpjnjhiklaofaaRad5
namespace Go.Proofs.Ytmpjnjhiklaofaa
set_option linter.unusedSimpArgs false
set_option linter.unusedVariables false
open Go.RowKit

/-- The columns' digits, up to column q. -/
def dcols (nx ny : List Int) (q : Nat) : List (List Int) := (ny.take q).map fun n => (dig nx n).1
theorem dcols_succ (nx : List Int) {ny : List Int} {q : Nat} (h : q < ny.length) : dcols nx ny (q + 1) = dcols nx ny q ++ [(dig nx (ny.getD q 0)).1] := by
  unfold dcols
  rw [List.take_add_one, List.map_append]
  simp [List.getD, h]
theorem dcols_getD (nx : List Int) {ny : List Int} {q j : Nat} (h : q ≤ ny.length) (hj : j < q) : (dcols nx ny q).getD j [] = (dig nx (ny.getD j 0)).1 := by
  unfold dcols
  simp [List.getD, List.getElem?_take, hj, show j < ny.length by omega]
/-- The numbers of the first i rows; the first j numbers of row i. -/
def encP (nx ny : List Int) (i : Nat) : List Int := (List.range i).flatMap fun i => ny.map fun n => (dig nx n).1.getD i 0
def encQ (nx ny : List Int) (i j : Nat) : List Int := (ny.take j).map fun n => (dig nx n).1.getD i 0
theorem encP_succ (nx ny : List Int) (i : Nat) : encP nx ny (i + 1) = encP nx ny i ++ encQ nx ny i ny.length := by
  unfold encP encQ
  rw [List.range_succ, List.flatMap_append, List.take_length]; simp
theorem encQ_succ (nx : List Int) {ny : List Int} {i j : Nat} (h : j < ny.length) : encQ nx ny i (j + 1) = encQ nx ny i j ++ [(dig nx (ny.getD j 0)).1.getD i 0] := by
  unfold encQ
  rw [List.take_add_one, List.map_append]
  simp [List.getD, h]
theorem enc_len (nx ny : List Int) {i j : Nat} (h : j ≤ ny.length) : (encP nx ny i ++ encQ nx ny i j).length = i * ny.length + j := by
  rw [List.length_append, encP, flat_len i ny.length _ (fun i => by simp)]
  simp [encQ]; omega
theorem rad_parts {kx ky : Int} {sx nx sy ny : List Int} {ix iy : List Arr} (h : radErr (.mk kx sx nx ix) (.mk ky sy ny iy) = 0) : rightV (.mk kx sx nx ix) = 0 ∧ rightV (.mk ky sy ny iy) = 0 ∧ kx = 1 ∧ ky = 1 ∧ sx.length ≤ 1 := by
  rw [radErr] at h
  split at h
  · cases h
  · rename_i h1
    split at h
    · cases h
    · rename_i h2
      split at h
      · cases h
      · rename_i h3
        refine ⟨Classical.byContradiction fun hc => h1 (.inl hc), Classical.byContradiction fun hc => h1 (.inr hc), Classical.byContradiction fun hc => h2 (.inl hc), Classical.byContradiction fun hc => h2 (.inr hc), by omega⟩


set_option maxRecDepth 1000000 in
set_option maxHeartbeats 16000000 in
theorem encode_any (F G : Nat → Prop) (x y : Arr) (c0 c1 c2 c3 d0 d1 d2 d3 : Value) (w : World) (hx : ArrAt F w x c0 c1 c2 c3) (hy : ArrAt G w y d0 d1 d2 d3) :
    Calls Try.prog 17 #[.agg #[c0, c1, c2, c3], .agg #[d0, d1, d2, d3]] w fun e w' =>
      ∃ e0 e1 e2 e3, e = .returned (.tuple #[.agg #[e0, e1, e2, e3], .int .i64 (encV x y).2]) ∧ ArrAt (fun b => w.heap.size ≤ b) w' (encV x y).1 e0 e1 e2 e3 ∧ Ext w w' := by
  obtain ⟨kx, sx, nx, ix⟩ := x
  obtain ⟨ky, sy, ny, iy⟩ := y
  have hx' := hx
  have hy' := hy
  unfold ArrAt at hx' hy'
  obtain ⟨rfl, hkx, ⟨q1, m1, rfl, ⟨o1, o1', o1''⟩, i1⟩, ⟨q2, m2, rfl, ⟨o2, o2', o2''⟩, i2⟩, ⟨q3, m3, rfl, ⟨o3, o3', o3''⟩, i3⟩⟩ := hx'
  obtain ⟨rfl, hky, ⟨r1, n1, rfl, ⟨p1, p1', p1''⟩, j1⟩, ⟨r2, n2, rfl, ⟨p2, p2', p2''⟩, j2⟩, ⟨r3, n3, rfl, ⟨p3, p3', p3''⟩, j3⟩⟩ := hy'
  have HX := Lib.hid hx
  have HY := Lib.hid hy
  have HNX := Lib.hid i2
  have HNY := Lib.hid j2
  have HSX := Lib.hid i1
  have HSY := Lib.hid j1
  clear hx hy i1 i2 i3 j1 j2 j3
  generalize hres : encV (.mk kx sx nx ix) (.mk ky sy ny iy) = res
  unfold encV at hres
  have HR := Lib.hid hres
  clear hres
  go_enter Try.func17, Try.ntmps17
  go_wp2_with fail
  have hE0 : Ext w (((w.alloc (.cells #[.int .i64 kx, .slice q1 sx.length m1, .slice q2 nx.length m2, .slice q3 ix.length m3] 26)).alloc (.cells #[.int .i64 ky, .slice r1 sy.length n1, .slice r2 ny.length n2, .slice r3 iy.length n3] 26)).alloc (.cells #[.int .i64 0, .slice none 0 0, .slice none 0 0, .slice none 0 0] 26)) := (((Ext.refl _).alloc _).alloc _).alloc _
  have hB1 := ((box_new w (.int .i64 kx) (.slice q1 sx.length m1) (.slice q2 nx.length m2) (.slice q3 ix.length m3)).ext ((Ext.refl _).alloc (.cells #[.int .i64 ky, .slice r1 sy.length n1, .slice r2 ny.length n2, .slice r3 iy.length n3] 26))).ext ((Ext.refl _).alloc (.cells #[.int .i64 0, .slice none 0 0, .slice none 0 0, .slice none 0 0] 26))
  have hB2 := (box_new (w.alloc (.cells #[.int .i64 kx, .slice q1 sx.length m1, .slice q2 nx.length m2, .slice q3 ix.length m3] 26)) (.int .i64 ky) (.slice r1 sy.length n1) (.slice r2 ny.length n2) (.slice r3 iy.length n3)).ext ((Ext.refl _).alloc (.cells #[.int .i64 0, .slice none 0 0, .slice none 0 0, .slice none 0 0] 26))
  have hB3 := box_new ((w.alloc (.cells #[.int .i64 kx, .slice q1 sx.length m1, .slice q2 nx.length m2, .slice q3 ix.length m3] 26)).alloc (.cells #[.int .i64 ky, .slice r1 sy.length n1, .slice r2 ny.length n2, .slice r3 iy.length n3] 26)) (.int .i64 0) (.slice none 0 0) (.slice none 0 0) (.slice none 0 0)
  rw [World.size_alloc] at hB2
  rw [World.size_alloc, World.size_alloc] at hB3
  generalize ((w.alloc (.cells #[.int .i64 kx, .slice q1 sx.length m1, .slice q2 nx.length m2, .slice q3 ix.length m3] 26)).alloc (.cells #[.int .i64 ky, .slice r1 sy.length n1, .slice r2 ny.length n2, .slice r3 iy.length n3] 26)).alloc (.cells #[.int .i64 0, .slice none 0 0, .slice none 0 0, .slice none 0 0] 26) = w1 at hE0 hB1 hB2 hB3 ⊢
  refine (radWrong_any F G _ _ _ _ _ _ _ _ _ _ w1 (HX.out.ext hE0) (HY.out.ext hE0)).mono ?_
  rintro e w2 ⟨rfl, hE1⟩
  replace hB1 := hB1.ext hE1
  replace hB2 := hB2.ext hE1
  replace hB3 := hB3.ext hE1
  have hE2 := hE0.trans hE1
  clear hE0 hE1
  have hlt2 := hB3.lt
  obtain ⟨s0, s1, s2, s3⟩ := hB1.cell
  obtain ⟨t0, t1, t2, t3⟩ := hB2.cell
  obtain ⟨x0, x1, x2, x3⟩ := hB3.cell
  have y0 := hB3.free 0
  have y1 := hB3.free 1
  have y2 := hB3.free 2
  have y3 := hB3.free 3
  by_cases hw : radErr (.mk kx sx nx ix) (.mk ky sy ny iy) = 0
  rotate_left
  · have hR1 := HR.out
    rw [if_pos hw] at hR1
    subst hR1
    generalize hrv : radErr (.mk kx sx nx ix) (.mk ky sy ny iy) = rv at *
    have HRV := Lib.hid hrv
    clear hrv HR
    go_wp2_with fail
    obtain ⟨g1, g2, g3⟩ := hB3.put4 hE2 (by omega) (.int .i64 0) (.slice none 0 0) (.slice none 0 0) (.slice none 0 0)
    revert g1 g2 g3
    generalize ((((w2.setCell ⟨w.heap.size + 1 + 1, 0, none⟩ (.int .i64 0)).setCell ⟨w.heap.size + 1 + 1, 1, none⟩ (.slice none 0 0)).setCell ⟨w.heap.size + 1 + 1, 2, none⟩ (.slice none 0 0)).setCell ⟨w.heap.size + 1 + 1, 3, none⟩ (.slice none 0 0)) = w9
    intro g1 g2 g3
    obtain ⟨z0, z1, z2, z3⟩ := g2.cell
    refine bodyPost_ret (v := .tuple #[.agg #[(.int .i64 0), (.slice none 0 0), (.slice none 0 0), (.slice none 0 0)], .int .i64 rv]) ?_ rfl ⟨_, _, _, _, by rw [HRV.out], Arr.zero_at _ _, g1⟩
    simp [results, Try.results17, go_sem, z0, z1, z2, z3]
  have hR1 := HR.out
  rw [if_neg (by simp [hw])] at hR1
  have HR1 := Lib.hid hR1
  have hparts := rad_parts hw
  rw [hw]
  clear hR1 HR hw
  obtain ⟨hrx, hry, rfl, rfl, hsl⟩ := hparts
  have HRX := Lib.hid hrx
  have HRY := Lib.hid hry
  clear hrx hry
  go_wp2_with fail
  refine (containsFunc_radNeg F q2 m2 nx w2 (HNX.out.ext hE2) (by unfold lenMax; omega)).mono ?_
  rintro e w2' ⟨rfl, rfl⟩
  by_cases hng : nx.any isNeg = true
  · have hR1 := HR1.out
    rw [if_pos hng] at hR1
    subst hR1
    rw [hng]
    go_wp2_with fail
    obtain ⟨g1, g2, g3⟩ := hB3.put4 hE2 (by omega) (.int .i64 0) (.slice none 0 0) (.slice none 0 0) (.slice none 0 0)
    revert g1 g2 g3
    generalize ((((w2.setCell ⟨w.heap.size + 1 + 1, 0, none⟩ (.int .i64 0)).setCell ⟨w.heap.size + 1 + 1, 1, none⟩ (.slice none 0 0)).setCell ⟨w.heap.size + 1 + 1, 2, none⟩ (.slice none 0 0)).setCell ⟨w.heap.size + 1 + 1, 3, none⟩ (.slice none 0 0)) = w9
    intro g1 g2 g3
    obtain ⟨z0, z1, z2, z3⟩ := g2.cell
    refine bodyPost_ret (v := .tuple #[.agg #[(.int .i64 0), (.slice none 0 0), (.slice none 0 0), (.slice none 0 0)], .int .i64 17]) ?_ rfl ⟨_, _, _, _, rfl, Arr.zero_at _ _, g1⟩
    simp [results, Try.results17, go_sem, z0, z1, z2, z3]
  have hR1 := HR1.out
  rw [if_neg hng] at hR1
  have HR2 := Lib.hid hR1
  rw [Bool.eq_false_iff.2 hng]
  have hrad : RadOk nx := fun r hr => ⟨neg_none hng r hr, (right_ints HRX.out r hr).2⟩
  have HRAD := Lib.hid hrad
  clear hR1 HR1 hng hrad
  go_wp2_with fail
  have h8 := (right_parts HRY.out).2.1
  refine (concat_any F G w2.heap.size q1 r1 m1 n1 sx sy (w2.alloc (.cells #[.slice q1 sx.length m1, .slice r1 sy.length n1] 23)) (heap_alloc_new _ _) (HSX.out.ext (hE2.alloc _)) (HSY.out.ext (hE2.alloc _)) (by unfold lenMax; omega)).mono ?_
  rintro e w3 ⟨v, rfl, hO, hE3⟩
  have hE3' : Ext w2 w3 := ((Ext.refl w2).alloc _).trans hE3
  have hE4 := hE2.trans hE3'
  replace hB1 := hB1.ext hE3'
  replace hB2 := hB2.ext hE3'
  replace hB3 := hB3.ext hE3'
  obtain ⟨ps, cs, rfl, ⟨k1, k2, k3⟩, hi⟩ := hO.ints
  have hsl9 := hO.1
  rw [World.size_alloc] at hO hi
  generalize hsh : sx ++ sy = sh at *
  rw [← hsl9] at hO
  have HSH := Lib.hid hsh
  have HSL := Lib.hid hsl9
  clear hsh hE3 hsl9
  have hlt3 := hE4.lt
  have hlt3' := hB3.lt
  clear s0 s1 s2 s3 t0 t1 t2 t3 x0 x1 x2 x3 y0 y1 y2 y3
  go_wp2_with fail
  have g2 := box_new w3 (.int .i64 1) (.slice ps sh.length cs) (.slice none 0 0) (.slice none 0 0)
  have hEa : Ext w3 (w3.alloc (.cells #[.int .i64 1, .slice ps sh.length cs, .slice none 0 0, .slice none 0 0] 26)) := (Ext.refl w3).alloc _
  generalize w3.alloc (.cells #[.int .i64 1, .slice ps sh.length cs, .slice none 0 0, .slice none 0 0] 26) = w4 at g2 hEa ⊢
  have g1 := hE4.trans hEa
  replace hB1 := hB1.ext hEa
  replace hB2 := hB2.ext hEa
  replace hB3 := hB3.ext hEa
  have hO4 := hO.same (w' := w4) (Y := fun q => q = w3.heap.size) (fun q _ hlt _ => ⟨hEa.block hlt, by omega⟩)
  have hi4 := hi.mono (G := fun q => w2.heap.size < q ∧ q < w3.heap.size) (w' := w4) (fun q hq hlt => ⟨⟨by omega, hlt⟩, hEa.block hlt⟩)
  clear hi hO hEa
  have hlt4 := g2.lt
  obtain ⟨s0, s1, s2, s3⟩ := hB1.cell
  obtain ⟨t0, t1, t2, t3⟩ := hB2.cell
  obtain ⟨x0, x1, x2, x3⟩ := hB3.cell
  have y0 := hB3.free 0
  have y1 := hB3.free 1
  have y2 := hB3.free 2
  have y3 := hB3.free 3
  go_wp2_with fail
  refine (shapeRight_any _ ps cs sh w4 hi4 (by unfold lenMax; omega)).mono ?_
  rintro e w4' ⟨rfl, rfl⟩
  by_cases hsr : shapeRight sh = true
  rotate_left
  · have hR1 := HR2.out
    rw [if_neg hsr] at hR1
    subst hR1
    rw [Bool.eq_false_iff.2 hsr]
    go_wp2_with fail
    obtain ⟨g1, g2, g3⟩ := hB3.put4 g1 (by omega) (.int .i64 0) (.slice none 0 0) (.slice none 0 0) (.slice none 0 0)
    revert g1 g2 g3
    generalize ((((w4.setCell ⟨w.heap.size + 1 + 1, 0, none⟩ (.int .i64 0)).setCell ⟨w.heap.size + 1 + 1, 1, none⟩ (.slice none 0 0)).setCell ⟨w.heap.size + 1 + 1, 2, none⟩ (.slice none 0 0)).setCell ⟨w.heap.size + 1 + 1, 3, none⟩ (.slice none 0 0)) = w9
    intro g1 g2 g3
    obtain ⟨z0, z1, z2, z3⟩ := g2.cell
    refine bodyPost_ret (v := .tuple #[.agg #[(.int .i64 0), (.slice none 0 0), (.slice none 0 0), (.slice none 0 0)], .int .i64 21]) ?_ rfl ⟨_, _, _, _, rfl, Arr.zero_at _ _, g1⟩
    simp [results, Try.results17, go_sem, z0, z1, z2, z3]
  have hR1 := HR2.out
  rw [if_pos hsr] at hR1
  have HR3 := Lib.hid hR1
  rw [hsr]
  clear hR1 HR2
  have hny := (right_parts HRY.out).2.2.2.1
  have hny' := (hny (by omega)).2
  have hhi := shapeSize_hi sy
  have hnl : ny.length ≤ 65536 := by omega
  have HYN := Lib.hid (right_ints HRY.out)
  have hnxl : nx.length ≤ 65536 := by
    have h1 := (right_parts HRX.out).2.2.2.1
    have h2 := (h1 (by omega)).2
    have h3 := shapeSize_hi sx
    omega
  have HSR := Lib.hid hsr
  clear hny hny' hhi hsr
  have hmk := run_make_rows ny.length hnl
  have hS := OwnS.made w4 ny.length nx.length hnl
  have hEa : Ext w4 (w4.alloc (.cells (madeCells #[.slice none 0 0] ny.length) 23)) := (Ext.refl _).alloc _
  obtain ⟨_, _, ta2, _⟩ := (hB2.ext hEa).cell
  have hlt5 : w.heap.size + 1 < w4.heap.size := by omega
  go_wp2_with fail
  clear ta2
  generalize w4.alloc (.cells (madeCells #[.slice none 0 0] ny.length) 23) = w5 at hS hEa ⊢
  have HS5 := Lib.hid hS
  have HE5 := Lib.hid hEa
  have HB1 := Lib.hid hB1
  have HB2 := Lib.hid hB2
  have HB3 := Lib.hid hB3
  have HBO := Lib.hid g2
  have HG1 := Lib.hid g1
  have HO4 := Lib.hid hO4
  have HI4 := Lib.hid hi4
  clear s0 s1 s2 s3 t0 t1 t2 t3 x0 x1 x2 x3 y0 y1 y2 y3
  clear hS hEa hB1 hB2 hB3 g2 hO4 hi4 hmk
  go_loopw [8, 44] (fun cv iv wr => ∃ (q : Nat) (v : Value), q ≤ ny.length ∧ v = cv ∧ iv = .int .i64 q ∧ OwnS w4.heap.size nx.length wr v q (dcols nx ny q) ∧ Ext w4 wr) (fun _ iv _ => ny.length - (intOf iv).toNat)
  case atStart => exact ⟨0, _, Nat.zero_le _, rfl, rfl, HS5.out, HE5.out⟩
  case round =>
    obtain ⟨q, v, hq, rfl, rfl, hS, hE⟩ := hrel
    clear HS5 HE5
    obtain ⟨pv, cv, rfl, hvc, hvm⟩ := hS.form
    unfold maxLen at hvm
    by_cases hlt : q < ny.length
    · obtain ⟨b2, off2, rfl, a2, _, _⟩ := (HNY.out.ext (HG1.out.trans hE)).get hlt
      have hd := HYN.out (ny.getD q 0) (by simp [List.getD, hlt])
      have htk := dcols_succ nx hlt
      have HTK := Lib.hid htk
      generalize ny.getD q 0 = d at *
      have HD := Lib.hid (show NumB d from hd)
      clear hd htk
      obtain ⟨s0, s1, s2, s3⟩ := (HB1.out.ext hE).cell
      go_wp2_with fail
      refine (digits_any F q2 m2 nx d wr (HNX.out.ext (HG1.out.trans hE)) ⟨o2, o2', o2''⟩ HRAD.out HD.out).mono ?_
      rintro e wd ⟨g, rfl, hg, hrow, hEd⟩
      have hS2 := (hS.ext hEd).ext ((Ext.refl wd).alloc (.cells #[.slice (some ⟨g, 0, none⟩) nx.length nx.length] 23))
      have hrow2 := hrow.ext ((Ext.refl wd).alloc (.cells #[.slice (some ⟨g, 0, none⟩) nx.length nx.length] 23))
      have hE2 := (hE.trans hEd).alloc (.cells #[.slice (some ⟨g, 0, none⟩) nx.length nx.length] 23)
      have hcell : (wd.alloc (.cells #[.slice (some ⟨g, 0, none⟩) nx.length nx.length] 23)).cell? ⟨wd.heap.size, 0, none⟩ = some (.slice (some ⟨g, 0, none⟩) nx.length nx.length) := by simp
      have hgv : (Value.slice pv q cv).ownBlock ≠ some g := fun e => by
        obtain ⟨_, cells, h2, _⟩ := hS
        have := (h2.lt g e).2
        omega
      have hg4 : w4.heap.size ≤ g := by have := hE.lt; omega
      have hvl : ∀ z, (Value.slice pv q cv).ownBlock = some z → w4.heap.size ≤ z := fun z e => by
        obtain ⟨_, cells, h2, _⟩ := hS
        exact (h2.lt z e).1
      clear hS hE a2 s0 s1 s2 s3
      go_wp2_with (at_builtin; refine wpList_append_row rfl _ _ rfl w4.heap.size nx.length (.slice pv q cv) q _ (dig nx d).1 g rfl hS2 wd.heap.size 1 rfl hcell hrow2 hg4 hgv (by omega) hE2.lt ?_)
      intro z cap w6 hS6 hgr hat _ _
      have hE6 := hE2.grown hgr hE2.lt hvl
      rw [← HTK.out] at hS6
      clear hS2 hrow2 hE2 hcell
      go_wp2_with fail
      go_roundw
      case rel => exact ⟨q + 1, _, by omega, rfl, by go_num, hS6, hE6⟩
      case measure => simp [intOf]; omega
    · have hqe : q = ny.length := by omega
      subst hqe
      obtain ⟨s0, s1, s2, s3⟩ := (HB1.out.ext hE).cell
      have HSC := Lib.hid hS
      obtain ⟨wB, rfl⟩ : ∃ wx : World, wx = wr := ⟨_, rfl⟩
      have hltB := hE.lt
      have hlt4' : w3.heap.size < w4.heap.size := hlt4
      have hw3 : w.heap.size ≤ w3.heap.size := hlt3
      have HM0 := Lib.hid (MkB.fresh (X := fun b => b < wB.heap.size ∧ w.heap.size ≤ b) (HG1.out.trans hE) hw3 (HBO.out.ext hE) ⟨by omega, hw3⟩ (fun x hx => hx.1))
      have HBC := Lib.hid (HB1.out.ext hE)
      have HEB := Lib.hid hE
      have HNB : Hid (encP nx ny 0 = []) := rfl
      clear hS hE
      go_wp2_with fail
      clear s0 s1 s2 s3
      go_loopw [59] (fun iv wr => ∃ (i : Nat) (v2 : Value) (n : List Int), i ≤ nx.length ∧ iv = .int .i64 i ∧ n = encP nx ny i ∧ MkB w wr (fun b => b < wB.heap.size ∧ w.heap.size ≤ b) w3.heap.size 1 (.slice ps sh.length cs) v2 (.slice none 0 0) n [] ∧ (∀ q, w.heap.size ≤ q → q < wB.heap.size → q ≠ w3.heap.size → wr.heap[q]? = wB.heap[q]?)) (fun iv _ => nx.length - (intOf iv).toNat)
      case atStart => exact ⟨0, _, _, Nat.zero_le _, rfl, HNB.out.symm, HM0.out, fun _ _ _ _ => rfl⟩
      case round =>
        obtain ⟨i, v2, n, hi, rfl, hn, hM, hkeep⟩ := hrel
        clear HM0
        by_cases hil : i < nx.length
        · have HNI := Lib.hid (show n = encP nx ny i ++ encQ nx ny i 0 by rw [hn]; simp [encQ])
          have HM1 := Lib.hid hM
          have HK1 := Lib.hid hkeep
          clear hM hkeep hn
          obtain ⟨wo, rfl⟩ : ∃ wx : World, wx = wr := ⟨_, rfl⟩
          go_wp2_with fail
          go_loopw [64] (fun jv wr => ∃ (j : Nat) (v2 : Value) (n : List Int), j ≤ ny.length ∧ jv = .int .i64 j ∧ n = encP nx ny i ++ encQ nx ny i j ∧ MkB w wr (fun b => b < wB.heap.size ∧ w.heap.size ≤ b) w3.heap.size 1 (.slice ps sh.length cs) v2 (.slice none 0 0) n [] ∧ (∀ q, w.heap.size ≤ q → q < wB.heap.size → q ≠ w3.heap.size → wr.heap[q]? = wB.heap[q]?)) (fun jv _ => ny.length - (intOf jv).toNat)
          case atStart => exact ⟨0, _, _, Nat.zero_le _, rfl, HNI.out, HM1.out, HK1.out⟩
          case round =>
            clear v2 HNI HM1 HK1
            obtain ⟨j, v2, n, hj, rfl, hn, hM, hkeep⟩ := hrel
            by_cases hjl : j < ny.length
            · obtain ⟨b, g, rfl, hb4, hbB, hcc, hrw, hg4⟩ := HSC.out.at hjl
              rw [dcols_getD nx (Nat.le_refl _) hjl] at hrw
              have hcr : wr.cell? ⟨b, j, none⟩ = some (.slice (some ⟨g, 0, none⟩) nx.length nx.length) := (World.cell?_of_block (w := wB) (a := ⟨b, j, none⟩) (hkeep b (by omega) hbB (by omega))).trans hcc
              have hrr := hrw.kept (hkeep g (by omega) hrw.lt (by omega))
              have hgB := hrw.lt
              have hcd := hrr.cell (j := i) (by rw [dig_len]; exact hil)
              have hes := encQ_succ nx (i := i) hjl
              have hdn := (dig_num nx (ny.getD j 0) HRAD.out (HYN.out _ (by simp [List.getD, hjl]))).2 ((dig nx (ny.getD j 0)).1.getD i 0) (by simp [List.getD, dig_len, hil])
              have hnl2 := enc_len nx ny (i := i) hj
              rw [← hn] at hnl2
              have hmul : i * ny.length ≤ 65536 * 65536 := Nat.mul_le_mul (by omega) hnl
              have hnb : n.length < 17592186044416 := by omega
              generalize (dig nx (ny.getD j 0)).1.getD i 0 = d at *
              have HN1 := Lib.hid (show n ++ [d] = encP nx ny i ++ encQ nx ny i (j + 1) by rw [hes, ← List.append_assoc, ← hn])
              have hd1 : -9223372036854775808 ≤ d ∧ d ≤ 9223372036854775807 := ⟨by have := hdn.1; omega, by have := hdn.2; omega⟩
              have HM1 := Lib.hid hM
              have HK1 := Lib.hid hkeep
              obtain ⟨ob0, ob1, ob2, ob3⟩ := hM.box.cell
              clear hrw hrr hes hdn hnl2 hmul hM hkeep hn hcc
              go_wp2_with fail
              have hS0 : wr.drew.cell? ⟨w3.heap.size, 2, none⟩ = some v2 ∧ wr.drew.cell? ⟨g, i, none⟩ = some (.int .i64 d) := ⟨ob2, hcd⟩
              have hgb : g < wB.heap.size ∧ w.heap.size ≤ g := ⟨hgB, by omega⟩
              refine wp_region_g [0, 1, 2, 3, 4, 5] [6, 7, 8, 9] (fun w' => w'.cell? ⟨w3.heap.size, 2, none⟩ = some v2 ∧ w'.cell? ⟨g, i, none⟩ = some (.int .i64 d)) (by kernel_rfl) (by kernel_rfl) hS0 ?_
              iterate 6
                refine wpHead_cons (v := ?_) rfl (by rfl) (fun w' hS => ?_) ?_
                rotate_left
                · obtain ⟨hS1, hS2⟩ := hS
                  go_simp
                  try with_reducible rfl
                try simp only [Act.put, List.setIfInBounds_toArray, List.set]
              unfold wpHead
              refine wpTail_cons rfl (fun K hK => ?_)
              clear hcr ob0 ob1 ob3
              go_wp2_with fail
              have hEn : Ext wr (wr.alloc (.cells #[.int .i64 d] 3)).drew := ((Ext.refl _).alloc _).drew
              have hnc : (wr.alloc (.cells #[.int .i64 d] 3)).drew.cell? ⟨wr.heap.size, 0, none⟩ = some (.int .i64 d) := by simp
              have hMn := HM1.out.next hEn
              have hc7 := hEn.cell hcd
              generalize (wr.alloc (.cells #[.int .i64 d] 3)).drew = w7 at hEn hnc hMn hc7 ⊢
              refine hK _ _ ⟨hMn.box.cell.2.2.1, hc7⟩ ?_
              try simp only [Act.put, List.setIfInBounds_toArray, List.set]
              refine wpTail_cons rfl (fun K hK => ?_)
              refine wpList_append_int rfl _ _ rfl w.heap.size _ v2 n.length n d rfl hMn.on ⟨wr.heap.size, 0, none⟩ 1 rfl hnc hMn.xl2 hd1 hnb hMn.ext.lt ?_
              intro gq cap w8 hon8 hgrow hat8 _ _
              obtain ⟨_, q2', q3'⟩ := hMn.grownN hgrow
              obtain ⟨_, _, tt2, _⟩ := q2'.cell
              have tf := q2'.free 2
              have hc8 : w8.cell? ⟨g, i, none⟩ = some (.int .i64 d) := (World.cell?_of_block (w := w7) (a := ⟨g, i, none⟩) (q3' g hgb)).trans hc7
              obtain ⟨hM8, hfar⟩ := hMn.storedN (n' := n ++ [d]) hgrow (by simp) hon8 hat8
              have hkeep2 : ∀ q, w.heap.size ≤ q → q < wB.heap.size → q ≠ w3.heap.size → (w8.setCell ⟨w3.heap.size, 2, none⟩ (.slice (some ⟨gq, 0, none⟩) (n.length + 1) cap)).heap[q]? = wB.heap[q]? := fun q a1 a2 a3 => ((hfar q ⟨a2, a1⟩ a3).trans (hEn.block (HM1.out.xl q ⟨a2, a1⟩))).trans (HK1.out q a1 a2 a3)
              refine hK _ _ ⟨tt2, hc8⟩ ?_
              try simp only [Act.put, List.setIfInBounds_toArray, List.set]
              refine wpTail_free2 rfl rfl (by kernel_rfl) ?_
              clear hfar hMn hon8 hgrow hat8 q2' q3' hnc hEn hc7 hc8 hcd hS0
              go_wp2_with fail
              refine OnlyN.mk ?_
              revert hM8 hkeep2
              generalize w8.setCell ⟨w3.heap.size, 2, none⟩ (.slice (some ⟨gq, 0, none⟩) (n.length + 1) cap) = wk
              intro hM8 hkeep2
              clear tt2 tf
              (try simp only [Exit.inBlock, Exit.then])
              go_wp2_with fail
              go_roundw
              case rel => exact ⟨j + 1, _, n ++ [d], by omega, by go_num, HN1.out, hM8, hkeep2⟩
              case measure => simp [intOf]; omega
            · have hje : j = ny.length := by omega
              subst hje
              rw [← encP_succ] at hn
              have HN1 := Lib.hid hn
              clear hn
              go_wp2_with fail
              go_roundw
              case rel => exact ⟨i + 1, v2, n, by omega, by go_num, HN1.out, hM, hkeep⟩
              case measure => simp [intOf]; omega
        · have hie : i = nx.length := by omega
          subst hie
          have hlt2' : w.heap.size + 1 + 1 < w2.heap.size := hlt2
          have h23 : w2.heap.size ≤ w3.heap.size := hE3'.lt
          have hiw := HI4.out.mono (G := fun q => w2.heap.size < q ∧ q < w3.heap.size) (w' := wr) (fun q hq hlt => ⟨hq, (hkeep q (by omega) (by omega) (by omega)).trans (HEB.out.block hlt)⟩)
          have hA := MkB.arr (G := fun q => w2.heap.size < q ∧ q < w3.heap.size) hM (by omega) ⟨ps, cs, rfl, ⟨k1, k2, k3⟩, hiw⟩ (by simp)
          have hB3 := (HB3.out.ext HEB.out).kept (hkeep _ (by omega) (by omega) (by omega))
          obtain ⟨p9, c9, rfl, _, _⟩ := hM.on.ints
          obtain ⟨ob0, ob1, ob2, ob3⟩ := hM.box.cell
          obtain ⟨x0, x1, x2, x3⟩ := hB3.cell
          have y0 := hB3.free 0
          have y1 := hB3.free 1
          have y2 := hB3.free 2
          have y3 := hB3.free 3
          have hEM := hM.ext
          have HN1 := Lib.hid hn
          have HAA := Lib.hid hA
          have HB9 := Lib.hid hB3
          clear hn hM hkeep hiw hA hB3
          go_wp2_with fail
          obtain ⟨g1, g2, g3⟩ := HB9.out.put4 hEM (by omega) (.int .i64 1) (.slice ps sh.length cs) (.slice p9 n.length c9) (.slice none 0 0)
          revert g1 g2 g3
          generalize ((((wr.setCell ⟨w.heap.size + 1 + 1, 0, none⟩ (.int .i64 1)).setCell ⟨w.heap.size + 1 + 1, 1, none⟩ (.slice ps sh.length cs)).setCell ⟨w.heap.size + 1 + 1, 2, none⟩ (.slice p9 n.length c9)).setCell ⟨w.heap.size + 1 + 1, 3, none⟩ (.slice none 0 0)) = w9
          intro g1 g2 g3
          obtain ⟨z0, z1, z2, z3⟩ := g2.cell
          have hA9 := ArrAt.mono (G := fun b => w.heap.size ≤ b) (w' := w9) (fun b hb _ => ⟨by rcases hb with hb | hb <;> omega, g3 b (by rcases hb with hb | hb; have := hb.2; omega; omega)⟩) _ _ _ _ _ HAA.out
          have hne : encN nx ny = n := HN1.out.symm
          refine bodyPost_ret (v := .tuple #[.agg #[(.int .i64 1), (.slice ps sh.length cs), (.slice p9 n.length c9), (.slice none 0 0)], .int .i64 0]) ?_ rfl ⟨_, _, _, _, by rw [← HR3.out], by rw [← HR3.out, hne]; exact hA9, g1⟩
          simp [results, Try.results17, go_sem, z0, z1, z2, z3]

end Go.Proofs.Ytmpjnjhiklaofaa
