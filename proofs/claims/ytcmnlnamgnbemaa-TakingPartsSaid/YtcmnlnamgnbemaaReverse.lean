/-
  THE WALK of transposing.Reverse.
-/
import Derived.Test.YtcmnlnamgnbemaaAxes
namespace Go.Proofs.Ytcmnlnamgnbemaa
set_option linter.unusedSimpArgs false
set_option linter.unusedVariables false
open Go.RowKit

/-- The axes in reverse order. -/
def revAxes (r : Nat) : List Int := (List.range r).map fun (i : Nat) => (r : Int) - 1 - (i : Int)
theorem revAxes_length (r : Nat) : (revAxes r).length = r := by simp [revAxes]
theorem revAxes_getD (r j : Nat) (h : j < r) : (revAxes r).getD j 0 = (r : Int) - 1 - j := by simp [revAxes, List.getD, h]

/-- Reverse, as a function. -/
def reverseV (y : Arr) : Arr :=
  if rightV y ≠ 0 then Arr.zero else
  match y with
  | .mk ky sy ny iy => movedV (revAxes sy.length) (.mk ky sy ny iy) (dimsGo (revAxes sy.length) sy [])

/-- The first k places filled. -/
def fillRev (r k : Nat) : List Int := (revAxes r).take k ++ List.replicate (r - k) 0
theorem fillRev_length (r k : Nat) (h : k ≤ r) : (fillRev r k).length = r := by
  simp [fillRev, revAxes_length]; omega
theorem fillRev_set (r k : Nat) (h : k < r) : (fillRev r k).set k ((r : Int) - 1 - k) = fillRev r (k + 1) := by
  unfold fillRev
  have h1 : ((revAxes r).take k).length = k := by simp [revAxes_length]; omega
  rw [List.set_append_right _ _ (by omega), h1, Nat.sub_self, show r - k = (r - (k + 1)) + 1 by omega, List.replicate_succ, List.set_cons_zero]
  rw [List.take_succ_eq_append_getElem (by rw [revAxes_length]; exact h), List.append_assoc]
  congr 1
  simp [revAxes]
theorem fillRev_all (r : Nat) : fillRev r r = revAxes r := by
  unfold fillRev
  rw [Nat.sub_self, List.take_of_length_le (by rw [revAxes_length]; exact Nat.le_refl _)]
  simp

set_option maxRecDepth 100000 in
set_option maxHeartbeats 4000000 in
/-- transposing.Reverse. -/
theorem reverse_any (G : Nat → Prop) (y : Arr) (d0 d1 d2 d3 : Value) (w : World) (hy : ArrAt G w y d0 d1 d2 d3) :
    Calls Try.prog 35 #[.agg #[d0, d1, d2, d3]] w fun e w' =>
      ∃ e0 e1 e2 e3, e = .returned (.agg #[e0, e1, e2, e3]) ∧ ArrAt (fun b => w.heap.size ≤ b) w' (reverseV y) e0 e1 e2 e3 ∧ Ext w w' := by
  obtain ⟨ky, sy, ny, iy⟩ := y
  have hy' := hy
  unfold ArrAt at hy'
  obtain ⟨rfl, hky, ⟨r1, n1, rfl, ⟨p1, p1', p1''⟩, j1⟩, ⟨r2, n2, rfl, ⟨p2, p2', p2''⟩, j2⟩, ⟨r3, n3, rfl, ⟨p3, p3', p3''⟩, j3⟩⟩ := hy'
  have HY := Lib.hid hy
  have HS := Lib.hid j1
  clear hy j1 j2 j3
  have hmk : ∀ (w : World), (Instr.makeSlice 23 (.int .i64 (sy.length : Int)) (.int .i64 (sy.length : Int))).run Try.prog w = .ok (.slice (some ⟨w.heap.size, 0, none⟩) sy.length sy.length) (w.alloc (.cells (madeCells #[.int .i64 0] sy.length) 3)) := by
    intro w
    obtain ⟨i0, hi, hz0, hz1, hz2⟩ := info_parts infoI
    have := run_make (P := Try.prog) w 23 3 i0 (.int .i64 0) Try.underlying23 hi hz0 .i64 .i64 sy.length sy.length (by omega) (by omega) (by rw [hz2]; omega) (by omega)
    rw [hz1] at this
    simpa [Value.cells] using this
  generalize hres : reverseV (.mk ky sy ny iy) = res
  have HR : Hid ((if rightV (.mk ky sy ny iy) ≠ 0 then Arr.zero else movedV (revAxes sy.length) (.mk ky sy ny iy) (dimsGo (revAxes sy.length) sy [])) = res) := by
    show _ = _
    rw [← hres]; rfl
  clear hres
  go_enter Try.func35, Try.ntmps35
  go_wp2_with fail
  have hE0 : Ext w ((w.alloc (.cells #[.int .i64 ky, .slice r1 sy.length n1, .slice r2 ny.length n2, .slice r3 iy.length n3] 26)).alloc (.cells #[.int .i64 0, .slice none 0 0, .slice none 0 0, .slice none 0 0] 26)) := ((Ext.refl _).alloc _).alloc _
  have hB1 := (box_new w (.int .i64 ky) (.slice r1 sy.length n1) (.slice r2 ny.length n2) (.slice r3 iy.length n3)).ext ((Ext.refl _).alloc (.cells #[.int .i64 0, .slice none 0 0, .slice none 0 0, .slice none 0 0] 26))
  have hB2 := box_new (w.alloc (.cells #[.int .i64 ky, .slice r1 sy.length n1, .slice r2 ny.length n2, .slice r3 iy.length n3] 26)) (.int .i64 0) (.slice none 0 0) (.slice none 0 0) (.slice none 0 0)
  rw [World.size_alloc] at hB2
  generalize (w.alloc (.cells #[.int .i64 ky, .slice r1 sy.length n1, .slice r2 ny.length n2, .slice r3 iy.length n3] 26)).alloc (.cells #[.int .i64 0, .slice none 0 0, .slice none 0 0, .slice none 0 0] 26) = w1 at hE0 hB1 hB2 ⊢
  refine (right_any G _ _ _ _ _ w1 (HY.out.ext hE0)).mono ?_
  rintro e w2 ⟨rfl, hE1⟩
  replace hB1 := hB1.ext hE1
  replace hB2 := hB2.ext hE1
  have hE2 := hE0.trans hE1
  clear hE0 hE1
  have hlt2 := hB2.lt
  obtain ⟨s0, s1, s2, s3⟩ := hB1.cell
  obtain ⟨x0, x1, x2, x3⟩ := hB2.cell
  have y0 := hB2.free 0
  have y1 := hB2.free 1
  have y2 := hB2.free 2
  have y3 := hB2.free 3
  by_cases hr : rightV (.mk ky sy ny iy) = 0
  · have hR1 := HR.out
    rw [if_neg (by simp [hr])] at hR1
    have HRES := Lib.hid hR1
    have HRT := Lib.hid hr
    rw [hr]
    clear hR1 HR hr
    obtain ⟨_, h8, hgo, _, _⟩ := right_parts HRT.out
    have HGO := Lib.hid hgo
    clear hgo
    clear x0 x1 x2 x3 y0 y1 y2 y3
    go_wp2_with fail
    have hI := RowI.made (w := w2) sy.length
    have hE3 := hE2.trans ((Ext.refl _).alloc (.cells (madeCells #[.int .i64 0] sy.length) 3))
    have hS3 : Ext w2 (w2.alloc (.cells (madeCells #[.int .i64 0] sy.length) 3)) := (Ext.refl _).alloc _
    generalize w2.alloc (.cells (madeCells #[.int .i64 0] sy.length) 3) = w3 at *
    have HI := Lib.hid hI
    have HS3 := Lib.hid hS3
    clear hI hS3 hmk s0 s1 s2 s3 hE3
    go_loopw [17] (fun i wr => ∃ (k : Nat), k ≤ sy.length ∧ i = .int .i64 k ∧ RowI wr w2.heap.size (fillRev sy.length k) ∧ Ext w2 wr) (fun i _ => sy.length - (intOf i).toNat)
    case atStart => exact ⟨0, Nat.zero_le _, rfl, by rw [show fillRev sy.length 0 = List.replicate sy.length 0 by simp [fillRev]]; exact HI.out, HS3.out⟩
    case round =>
      obtain ⟨k, hk, rfl, hRo, hEr⟩ := hrel
      clear HI HS3
      by_cases hlt : k < sy.length
      · have hc := hRo.cell (j := k) (by rw [fillRev_length _ _ hk]; exact hlt)
        have hfr := hRo.free k
        have hRo1 := hRo.set k ((sy.length : Int) - 1 - k)
        rw [fillRev_set _ _ hlt] at hRo1
        have hEr1 := hEr.setCell (p := ⟨w2.heap.size, k, none⟩) (Nat.le_refl _) (.int .i64 ((sy.length : Int) - 1 - k))
        go_wp2_with fail
        go_roundw
        case rel => exact ⟨k + 1, by omega, by go_num, hRo1, hEr1⟩
        case measure => simp [intOf]; omega
      · have hk2 : k = sy.length := by omega
        subst hk2
        rw [fillRev_all] at hRo
        have hlr := revAxes_length sy.length
        have hRb : ∀ x ∈ revAxes sy.length, -9223372036854775808 ≤ x ∧ x ≤ 9223372036854775807 := by
          intro x hx
          obtain ⟨i, hi, rfl⟩ := List.mem_map.1 hx
          rw [List.mem_range] at hi
          omega
        have HAI := Lib.hid (hRo.ints hRb)
        have HLR := Lib.hid hlr
        clear hRb hlr hRo
        replace hB1 := hB1.ext hEr
        replace hB2 := hB2.ext hEr
        have hE4 := hE2.trans hEr
        obtain ⟨s0, s1, s2, s3⟩ := hB1.cell
        go_wp2_with fail
        have hS0 : Ext wr wr.drew := (Ext.refl _).drew
        refine wp_region_g [0, 1, 2, 3, 4] [5, 6, 7] (fun w' => Ext wr w') (by kernel_rfl) (by kernel_rfl) hS0 ?_
        iterate 5
          refine wpHead_cons (v := ?_) rfl (by rfl) (fun w' hS => ?_) ?_
          rotate_left
          · have e0 := hS.cell s0
            have e1 := hS.cell s1
            have e2 := hS.cell s2
            have e3 := hS.cell s3
            go_simp
            try with_reducible rfl
          try simp only [Act.put, List.setIfInBounds_toArray, List.set]
        unfold wpHead
        refine wpTail_cons rfl (fun K hK => ?_)
        clear s0 s1 s2 s3
        go_wp2_with fail
        have HAX := Lib.hid (revAxes_getD sy.length)
        have HPOS := Lib.hid (fun y hy => (rightGo_nonneg sy 1 HGO.out y hy).1)
        have HC := dims_any (fun x => x = w2.heap.size) G (some ⟨w2.heap.size, 0, none⟩) r1 sy.length n1 (revAxes sy.length) sy wr.drew 8 (by omega) (HAI.out.ext hS0) (HS.out.ext (hE4.trans hS0)) (by rw [HLR.out]; exact Nat.le_refl _) (by rw [HLR.out]; unfold lenMax; omega) (fun j hj => by rw [HLR.out] at hj; rw [HAX.out j hj]; omega)
        rw [HLR.out] at HC
        refine HC.mono ?_
        clear HC
        rintro e w5 ⟨ps, cs, rfl, hsk, hsi, hE5⟩
        have hlt5 := hE5.lt
        have hdr : wr.drew.heap.size = wr.heap.size := rfl
        have hlr := hEr.lt
        have hS5 : Ext wr w5 := hS0.trans hE5
        have HFIT := Lib.hid (dims_fit (axes := revAxes sy.length) HLR.out (fun j hj => by rw [HLR.out] at hj; rw [HAX.out j hj]; omega) HPOS.out)
        have HLE := Lib.hid (dimsGo_len_le (revAxes sy.length) sy [] 8 (fun j hj => by rw [HLR.out] at hj; rw [HAX.out j hj]; omega) (by simp))
        generalize hds : dimsGo (revAxes sy.length) sy [] = ds at *
        have HDS := Lib.hid hds
        have hle : ds.length ≤ 8 := HLE.out
        have HDR := Lib.hid hdr
        clear hds hdr
        go_wp2_with fail
        refine hK _ _ hS5 ?_
        try simp only [Act.put, List.setIfInBounds_toArray, List.set]
        refine wpTail_cons rfl (fun K hK => ?_)
        go_wp2_with fail
        have HC := moved_any (fun x => x = w2.heap.size) _ G (some ⟨w2.heap.size, 0, none⟩) ps sy.length cs (revAxes sy.length) ds _ _ _ _ _ w5 (HAI.out.ext hS5) hsi hsk (HY.out.ext (hE4.trans hS5)) (by rw [HLR.out]; unfold lenMax; omega) (fun _ _ _ _ he => by cases he; exact HFIT.out) HRT.out
        rw [HLR.out] at HC
        refine HC.mono ?_
        clear HC
        rintro e w6 ⟨k0, k1, k2, k3, rfl, hA, hE6⟩
        obtain ⟨kr, u1, v1, z1, u2, v2, z2, u3, v3, z3, rfl, rfl, rfl, rfl⟩ := hA.form
        have hS6 := hS5.trans hE6
        go_wp2_with fail
        refine hK _ _ hS6 ?_
        try simp only [Act.put, List.setIfInBounds_toArray, List.set]
        refine wpTail_free1 rfl (by kernel_rfl) ?_
        replace hB2 := hB2.ext hS6
        obtain ⟨x0, x1, x2, x3⟩ := hB2.cell
        have y0 := hB2.free 0
        have y1 := hB2.free 1
        have y2 := hB2.free 2
        have y3 := hB2.free 3
        have hlt6 : wr.heap.size ≤ wr.drew.heap.size := by rw [HDR.out]; exact Nat.le_refl _
        go_wp2_with fail
        refine OnlyN.mk ?_
        go_wp2_with fail
        obtain ⟨g1, g2, g3⟩ := hB2.put4 (hE4.trans hS6) (by omega) (.int .i64 kr) (.slice u1 v1 z1) (.slice u2 v2 z2) (.slice u3 v3 z3)
        revert g1 g2 g3
        generalize ((((w6.setCell ⟨w.heap.size + 1, 0, none⟩ (.int .i64 kr)).setCell ⟨w.heap.size + 1, 1, none⟩ (.slice u1 v1 z1)).setCell ⟨w.heap.size + 1, 2, none⟩ (.slice u2 v2 z2)).setCell ⟨w.heap.size + 1, 3, none⟩ (.slice u3 v3 z3)) = w9
        intro g1 g2 g3
        obtain ⟨z0', z1', z2', z3'⟩ := g2.cell
        have hA9 := ArrAt.mono (G := fun b => w.heap.size ≤ b) (w' := w9) (fun b hb _ => ⟨by rcases hb with hb | hb <;> omega, g3 b (by rcases hb with hb | hb <;> omega)⟩) _ _ _ _ _ hA
        refine bodyPost_ret (v := .agg #[(.int .i64 kr), (.slice u1 v1 z1), (.slice u2 v2 z2), (.slice u3 v3 z3)]) ?_ rfl ⟨_, _, _, _, rfl, by rw [← HRES.out]; exact hA9, g1⟩
        simp [results, Try.results35, go_sem, z0', z1', z2', z3']
  · have hR1 := HR.out
    rw [if_pos hr] at hR1
    subst hR1
    generalize hrv : rightV (.mk ky sy ny iy) = rv at *
    clear hrv
    go_wp2_with fail
    obtain ⟨g1, g2, g3⟩ := hB2.put4 hE2 (by omega) (.int .i64 0) (.slice none 0 0) (.slice none 0 0) (.slice none 0 0)
    revert g1 g2 g3
    generalize ((((w2.setCell ⟨w.heap.size + 1, 0, none⟩ (.int .i64 0)).setCell ⟨w.heap.size + 1, 1, none⟩ (.slice none 0 0)).setCell ⟨w.heap.size + 1, 2, none⟩ (.slice none 0 0)).setCell ⟨w.heap.size + 1, 3, none⟩ (.slice none 0 0)) = w9
    intro g1 g2 g3
    obtain ⟨z0, z1, z2, z3⟩ := g2.cell
    refine bodyPost_ret (v := .agg #[.int .i64 0, .slice none 0 0, .slice none 0 0, .slice none 0 0]) ?_ rfl ⟨_, _, _, _, rfl, Arr.zero_at _ _, g1⟩
    simp [results, Try.results35, go_sem, z0, z1, z2, z3]
end Go.Proofs.Ytcmnlnamgnbemaa
