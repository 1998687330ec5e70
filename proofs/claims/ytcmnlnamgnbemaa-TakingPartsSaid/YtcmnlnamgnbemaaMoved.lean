/-
  THE WALK of transposing.moved. (Printed by gen_moved.py.)
-/
import Derived.Test.YtcmnlnamgnbemaaMk
import Derived.Test.YtcmnlnamgnbemaaOdo
namespace Go.Proofs.Ytcmnlnamgnbemaa
set_option linter.unusedSimpArgs false
set_option linter.unusedVariables false
open Go.RowKit

set_option maxRecDepth 100000 in
set_option maxHeartbeats 8000000 in
/-- transposing.moved at an array of numbers. -/
theorem movedN_any (F G H : Nat → Prop) (p1 p2 : Option Addr) (cc1 cc2 : Nat) (axes s ys : List Int) (k : Int) (n : List Int) (it : List Arr) (d0 d1 d2 d3 : Value) (w : World) (hk3 : (k == 3) = false)
    (hax : IntsAt F w p1 axes) (hs : IntsAt G w p2 s) (hsk : SlOk s.length cc2) (hy : ArrAt H w (.mk k ys n it) d0 d1 d2 d3) (hla : axes.length ≤ lenMax)
    (hfit : AxesFit axes ys s) (hr : rightGo 1 ys = true) (hN : (∀ j, j < ys.length → ys.getD j 0 ≠ 0) → prodGo 1 ys = n.length) :
    Calls Try.prog 64 #[.slice p1 axes.length cc1, .agg #[d0, d1, d2, d3], .slice p2 s.length cc2] w fun e w' =>
      ∃ c0 c1 c2 c3, e = .returned (.agg #[c0, c1, c2, c3]) ∧ ArrAt (fun b => w.heap.size ≤ b ∨ G b) w' (.mk k s (movedGo (fun t => n.getD (atGo axes ys t 0).toNat 0) s (shapeSize s).toNat (List.replicate s.length 0)) []) c0 c1 c2 c3 ∧ Ext w w' := by
  unfold ArrAt at hy
  obtain ⟨rfl, hk, ⟨q1, m1, rfl, ⟨o1, o1', o1''⟩, i1⟩, ⟨q2, m2, rfl, ⟨o2, o2', o2''⟩, i2⟩, ⟨q3, m3, rfl, ⟨o3, o3', o3''⟩, i3⟩⟩ := hy
  obtain ⟨u1, u2, u3⟩ := hsk
  replace hs : IntsAt (fun b => G b ∧ b < w.heap.size) w p2 s := hs.mono fun b hb hlt => ⟨⟨hb, hlt⟩, rfl⟩
  unfold lenMax at hla
  have hmk : ∀ (w : World), (Instr.makeSlice 23 (.int .i64 (s.length : Int)) (.int .i64 (s.length : Int))).run Try.prog w = .ok (.slice (some ⟨w.heap.size, 0, none⟩) s.length s.length) (w.alloc (.cells (madeCells #[.int .i64 0] s.length) 3)) := by
    intro w
    obtain ⟨i0, hi, hz0, hz1, hz2⟩ := info_parts infoI
    have := run_make (P := Try.prog) w 23 3 i0 (.int .i64 0) Try.underlying23 hi hz0 .i64 .i64 s.length s.length (by omega) (by omega) (by rw [hz2]; omega) (by omega)
    rw [hz1] at this
    simpa [Value.cells] using this
  have HFIT := Lib.hid hfit
  have HR := Lib.hid hr
  have HN := Lib.hid hN
  have hsz := shapeSize_hi s
  generalize hsz' : shapeSize s = sz at *
  have HSZ := Lib.hid hsz'
  clear hfit hr hN hsz'
  go_enter Try.func64, Try.ntmps64
  go_wp2_with fail
  go_step3
  go_wp2_with fail
  have hE0 : Ext w ((w.alloc (.cells #[.int .i64 k, .slice q1 ys.length m1, .slice q2 n.length m2, .slice q3 it.length m3] 26)).alloc (.cells #[.int .i64 0, .slice none 0 0, .slice none 0 0, .slice none 0 0] 26)) := ((Ext.refl _).alloc _).alloc _
  have hB1 := (box_new w (.int .i64 k) (.slice q1 ys.length m1) (.slice q2 n.length m2) (.slice q3 it.length m3)).ext ((Ext.refl _).alloc (.cells #[.int .i64 0, .slice none 0 0, .slice none 0 0, .slice none 0 0] 26))
  have hB2 := box_new (w.alloc (.cells #[.int .i64 k, .slice q1 ys.length m1, .slice q2 n.length m2, .slice q3 it.length m3] 26)) (.int .i64 0) (.slice none 0 0) (.slice none 0 0) (.slice none 0 0)
  have hsz1 : ((w.alloc (.cells #[.int .i64 k, .slice q1 ys.length m1, .slice q2 n.length m2, .slice q3 it.length m3] 26)).alloc (.cells #[.int .i64 0, .slice none 0 0, .slice none 0 0, .slice none 0 0] 26)).heap.size = w.heap.size + 2 := by simp
  rw [World.size_alloc] at hB2
  generalize (w.alloc (.cells #[.int .i64 k, .slice q1 ys.length m1, .slice q2 n.length m2, .slice q3 it.length m3] 26)).alloc (.cells #[.int .i64 0, .slice none 0 0, .slice none 0 0, .slice none 0 0] 26) = w1 at hE0 hB1 hB2 hsz1 ⊢
  have hO := (box_new w1 (.int .i64 k) (.slice p2 s.length cc2) (.slice none 0 0) (.slice none 0 0)).ext ((Ext.refl _).alloc (.cells (madeCells #[.int .i64 0] s.length) 3))
  have hI := RowI.made (w := w1.alloc (.cells #[.int .i64 k, .slice p2 s.length cc2, .slice none 0 0, .slice none 0 0] 26)) s.length
  have hE1 : Ext w1 ((w1.alloc (.cells #[.int .i64 k, .slice p2 s.length cc2, .slice none 0 0, .slice none 0 0] 26)).alloc (.cells (madeCells #[.int .i64 0] s.length) 3)) := ((Ext.refl _).alloc _).alloc _
  have hlt4 : ((w1.alloc (.cells #[.int .i64 k, .slice p2 s.length cc2, .slice none 0 0, .slice none 0 0] 26)).alloc (.cells (madeCells #[.int .i64 0] s.length) 3)).heap.size = w1.heap.size + 2 := by simp
  rw [World.size_alloc] at hI
  rw [hsz1] at hO hI hlt4
  generalize (w1.alloc (.cells #[.int .i64 k, .slice p2 s.length cc2, .slice none 0 0, .slice none 0 0] 26)).alloc (.cells (madeCells #[.int .i64 0] s.length) 3) = w4 at hO hI hE1 hlt4 ⊢
  have hM0 : MkN w1 w4 (fun x => x = w.heap.size + 2 ∨ x = w.heap.size + 3) (w.heap.size + 2) k (.slice p2 s.length cc2) (.slice none 0 0) [] :=
    ⟨hE1, by omega, hO, .inl rfl, fun x hx => by omega, OwnI.nil _ _ _⟩
  have HS1 := Lib.hid hsz1
  have HB1 := Lib.hid hB1
  have HB2 := Lib.hid hB2
  have hEw := hE0.trans hE1
  have HI0 := Lib.hid hI
  have HM0 := Lib.hid hM0
  have HAX := Lib.hid (hax.ext hE0)
  have HS := Lib.hid (hs.ext hE0)
  have HY := Lib.hid (i1.ext hE0)
  have HV := Lib.hid (i2.ext hE0)
  clear hB1 hB2 hO hI hE1 hM0 hlt4 hsz1 hmk
  refine (size_any _ p2 cc2 s _ (hs.ext hEw) (by unfold lenMax; omega)).mono ?_
  rintro e w5 ⟨rfl, rfl⟩
  rw [HSZ.out]
  clear hax hs i1 i2 i3
  have hsz0 : -1 ≤ sz := by rw [← HSZ.out]; exact shapeSize_lo s
  go_wp2_with fail
  go_step3
  go_wp2_with fail
  go_loopw [9] (fun l wr => ∃ (L : Int) (t : List Int) (n' : List Int) (v2 : Value), l = .int .i64 L ∧ -1 ≤ L ∧ (n'.length : Int) + L.toNat ≤ 65536 ∧ RowI wr (w.heap.size + 3) t ∧ MkN w1 wr (fun x => x = w.heap.size + 2 ∨ x = w.heap.size + 3) (w.heap.size + 2) k (.slice p2 s.length cc2) v2 n' ∧
      Hid (0 < L → Within s t) ∧ Hid (n' ++ movedGo (fun t => n.getD (atGo axes ys t 0).toNat 0) s L.toNat t = movedGo (fun t => n.getD (atGo axes ys t 0).toNat 0) s sz.toNat (List.replicate s.length 0))) (fun l _ => (intOf l).toNat)
  case atStart => exact ⟨sz, _, [], _, rfl, hsz0, by simp; omega, HI0.out, HM0.out, fun h => within_zero s (shapeSize_pos (by rw [HSZ.out]; exact h)), rfl⟩
  case round =>
    obtain ⟨L, t, n', v2, rfl, hL0, hnl, hRow, hM, hW, hG⟩ := hrel
    clear HI0 HM0
    by_cases hpos : 0 < L
    · have hWt := Lib.hid (hW.out hpos)
      clear hW
      have hAt := Lib.hid (atGo_bd axes ys s t 0 1 HFIT.out hWt.out (by omega) (by omega))
      generalize hA : atGo axes ys t 0 = A at *
      have HA := Lib.hid hA
      clear hA
      have hyz : ∀ j, j < ys.length → ys.getD j 0 ≠ 0 := by
        intro j hj
        have h1 := HFIT.out.2 j (by rw [HFIT.out.1]; exact hj)
        have h2 := hWt.out.2 _ h1.2.1
        omega
      have hAlt : 0 ≤ A ∧ A < (n.length : Int) := by
        have := hAt.out
        rw [HN.out hyz] at this
        exact this
      have hG' : Hid ((n' ++ [n.getD A.toNat 0]) ++ movedGo (fun t => n.getD (atGo axes ys t 0).toNat 0) s (L - 1).toNat (bump s s.length t) = movedGo (fun t => n.getD (atGo axes ys t 0).toNat 0) s sz.toNat (List.replicate s.length 0)) := by
        have h1 := hG.out
        rw [show L.toNat = (L - 1).toNat + 1 by omega, movedGo, hWt.out.1, HA.out] at h1
        rw [List.append_assoc]
        exact h1
      have hE1 : Ext w1 wr := hM.ext
      obtain ⟨yb0, yb1, yb2, yb3⟩ := (HB1.out.ext hE1).cell
      obtain ⟨ob0, ob1, ob2, ob3⟩ := hM.box.cell
      obtain ⟨hA0, hA1⟩ := hAlt
      have hHN := Lib.hid hyz
      clear hG hAt hyz
      go_wp2_with fail
      go_loopw [10, 27] (fun at' i wq => ∃ (q : Nat) (acc p : Int), q ≤ axes.length ∧ i = .int .i64 q ∧ at' = .int .i64 acc ∧ 0 ≤ acc ∧ acc < p ∧ p ≤ 65536 ∧ Ext wr wq ∧ Hid (rightGo p (ys.drop q) = true) ∧ Hid (atGo (axes.drop q) (ys.drop q) t acc = A)) (fun _ i _ => axes.length - (intOf i).toNat)
      case atStart => exact ⟨0, 0, 1, Nat.zero_le _, rfl, rfl, by omega, by omega, by omega, Ext.refl _, HR.out, HA.out⟩
      case round =>
        obtain ⟨q, acc, p, hq, rfl, rfl, hacc0, hacc1, hp, hEq, HRq, HAq⟩ := hrel
        by_cases hlt : q < axes.length
        · have hqy : q < ys.length := by rw [← HFIT.out.1]; exact hlt
          obtain ⟨b1, f1, rfl, ax1, _, _⟩ := (HAX.out.ext (hE1.trans hEq)).get hlt
          obtain ⟨b2, f2, rfl, ay1, _, _⟩ := (HY.out.ext (hE1.trans hEq)).get hqy
          have hfq := HFIT.out.2 q hlt
          have hyb1 := hEq.cell yb1
          have HD1 := Lib.hid (drop_getD hlt)
          have HD2 := Lib.hid (drop_getD hqy)
          have hnz := hHN.out q hqy
          obtain ⟨fa, fb, fc⟩ := hfq
          have hrow := (hRow.ext hEq).cell (j := (axes.getD q 0).toNat) (by rw [hWt.out.1]; exact fb)
          have hwt := hWt.out.2 _ fb
          generalize axes.getD q 0 = a at *
          generalize ys.getD q 0 = y at *
          have h3 := HRq.out
          rw [HD2.out] at h3
          obtain ⟨y0, y1, y2, y3⟩ := rightGo_cons h3 hnz
          have HR' := Lib.hid y3
          have h4 := HAq.out
          rw [HD1.out, HD2.out, atGo] at h4
          have HA' := Lib.hid h4
          obtain ⟨w0, w1'⟩ := hwt
          generalize t.getD a.toNat 0 = td at *
          have e1 : acc * y ≤ (p - 1) * y := Int.mul_le_mul_of_nonneg_right (by omega) (by omega)
          have e2 : 0 ≤ acc * y := Int.mul_nonneg hacc0 (by omega)
          rw [Int.sub_mul, Int.one_mul] at e1
          have hba : a < (s.length : Int) := by omega
          clear h3 h4 y3 HD1 HD2 HRq HAq hnz yb0 yb1 yb2 yb3 ob0 ob1 ob2 ob3
          go_wp2_with fail
          go_quiet (fail)
          go_wp2_with fail
          go_roundw
          case rel => exact ⟨q + 1, acc * y + td, p * y, by omega, by go_num, rfl, by omega, by omega, y2, hEq.drewN _, HR'.out, HA'.out⟩
          case measure => simp [intOf]; omega
        · have hAe : acc = A := by
            have := HAq.out
            rw [List.drop_of_length_le (by omega)] at this
            unfold atGo at this
            exact this
          subst hAe
          clear HRq HAq yb0 yb1 yb2 yb3 ob0 ob1 ob2 ob3
          have hM2 := hM.next hEq
          have hRow2 := hRow.ext hEq
          obtain ⟨yb0, yb1, yb2, yb3⟩ := (HB1.out.ext hM2.ext).cell
          obtain ⟨ob0, ob1, ob2, ob3⟩ := hM2.box.cell
          clear hM hRow
          go_wp2_with fail
          obtain ⟨bv, ov, rfl, av, av1, av2⟩ := HV.out.get (i := acc.toNat) (by omega)
          obtain ⟨_, _, yc2, _⟩ := HB1.out.cell
          have hS0 : Ext w1 wr.drew ∧ wr.drew.cell? ⟨w.heap.size + 2, 2, none⟩ = some v2 := ⟨hM2.ext.drew, ob2⟩
          generalize n.getD acc.toNat 0 = xv at *
          refine wp_region_g [0, 1, 2, 3, 4, 5, 6] [7, 8, 9, 10] (fun w' => Ext w1 w' ∧ w'.cell? ⟨w.heap.size + 2, 2, none⟩ = some v2) (by kernel_rfl) (by kernel_rfl) hS0 ?_
          iterate 7
            refine wpHead_cons (v := ?_) rfl (by rfl) (fun w' hS => ?_) ?_
            rotate_left
            · obtain ⟨hS1, hS2⟩ := hS
              have e0 := hS1.cell yc2
              have e1 := hS1.cell av
              go_simp
              try with_reducible rfl
            try simp only [Act.put, List.setIfInBounds_toArray, List.set]
          unfold wpHead
          refine wpTail_cons rfl (fun K hK => ?_)
          clear yc2 av yb0 yb1 yb2 yb3 ob0 ob1 ob2 ob3
          go_wp2_with fail
          have hEn : Ext wr (wr.alloc (.cells #[.int .i64 xv] 3)).drew := ((Ext.refl _).alloc _).drew
          have hnc : (wr.alloc (.cells #[.int .i64 xv] 3)).drew.cell? ⟨wr.heap.size, 0, none⟩ = some (.int .i64 xv) := by simp
          generalize (wr.alloc (.cells #[.int .i64 xv] 3)).drew = w7 at hEn hnc ⊢
          have hM7 := hM2.next hEn
          have hRow7 := hRow2.ext hEn
          refine hK _ _ ⟨hM7.ext, hM7.box.cell.2.2.1⟩ ?_
          try simp only [Act.put, List.setIfInBounds_toArray, List.set]
          refine wpTail_cons rfl (fun K hK => ?_)
          refine wpList_append_int rfl _ _ rfl w1.heap.size (fun x => x = w.heap.size + 2 ∨ x = w.heap.size + 3) v2 n'.length n' xv rfl hM7.on ⟨wr.heap.size, 0, none⟩ 1 rfl hnc hM7.xl ⟨av1, av2⟩ (by omega) hM7.ext.lt ?_
          intro g cap w8 hon8 hgrow _ _ _
          obtain ⟨q1, q2, q3⟩ := hM7.grown hgrow
          obtain ⟨_, _, t2, _⟩ := q2.cell
          have tf := q2.free 2
          obtain ⟨hM8, hfar⟩ := hM7.stored (v2' := .slice (some ⟨g, 0, none⟩) (n'.length + 1) cap) (n' := n' ++ [xv]) hgrow (by rw [List.length_append]; exact hon8)
          have hRow8 := hRow7.kept (hfar (w.heap.size + 3) (.inr rfl) (by omega))
          have hlen8 : (n' ++ [xv]).length = n'.length + 1 := by simp
          refine hK _ _ ⟨q1, t2⟩ ?_
          try simp only [Act.put, List.setIfInBounds_toArray, List.set]
          refine wpTail_free2 rfl rfl (by kernel_rfl) ?_
          clear hM7 hRow7 hon8 hgrow q1 q2 q3 hS0 hfar hM2 hRow2 hEn hnc
          go_wp2_with fail
          refine OnlyN.mk ?_
          generalize n' ++ [xv] = n8 at *
          have HM8 := Lib.hid hM8
          have HRow8 := Lib.hid hRow8
          clear hM8 hRow8
          go_wp2_with fail
          go_loopw [13] (fun i wq => ∃ (q : Nat) (t' : List Int), q ≤ s.length ∧ i = .int .i64 ((q : Int) - 1) ∧ RowI wq (w.heap.size + 3) t' ∧ MkN w1 wq (fun x => x = w.heap.size + 2 ∨ x = w.heap.size + 3) (w.heap.size + 2) k (.slice p2 s.length cc2) (.slice (some ⟨g, 0, none⟩) (n'.length + 1) cap) n8 ∧ Hid (Within s t') ∧ Hid (bump s q t' = bump s s.length t)) (fun i _ => (intOf i + 1).toNat)
          case atStart => exact ⟨s.length, t, Nat.le_refl _, by simp, HRow8.out, HM8.out, hWt.out, rfl⟩
          case round =>
            obtain ⟨r, t', hr, rfl, hRo, hMo, hWo, hBo⟩ := hrel
            clear HM8 HRow8
            cases r with
            | zero =>
              have hfin : t' = bump s s.length t := hBo.out
              subst hfin
              clear hBo
              go_wp2_with fail
              go_roundw
              case rel => exact ⟨L - 1, _, n8, _, by go_num, by omega, by omega, hRo, hMo, fun _ => hWo.out, hG'.out⟩
              case measure => simp [intOf]; omega
            | succ r =>
              have hWl := hWo.out.1
              have hj := hWo.out.2 r (by omega)
              have hcell := hRo.cell (j := r) (by omega)
              have hfr := hRo.free r
              obtain ⟨b2, f2, rfl, as1, as2, as3⟩ := (HS.out.ext hMo.ext).get (i := r) (by omega)
              have hB := hBo.out
              rw [bump] at hB
              have hBr := Lib.hid hB
              obtain ⟨hj0, hj1⟩ := hj
              have hne3 : w.heap.size + 3 ≠ w.heap.size + 2 := by omega
              have hRo1 := hRo.set r (t'.getD r 0 + 1)
              have hMo1 := hMo.other (.inr rfl) hne3 (by have := HS1.out; omega) (grown_setCell wr (w.heap.size + 3) r (.int .i64 (t'.getD r 0 + 1)))
              clear hB hBo hRo hMo
              generalize t'.getD r 0 = tr at *
              generalize hsr : s.getD r 0 = sr at *
              have HSR := Lib.hid hsr
              clear hsr
              have HWl := Lib.hid hWl
              clear hWl
              go_wp2_with fail
              generalize wr.setCell ⟨w.heap.size + 3, r, none⟩ (.int .i64 (tr + 1)) = w6 at hRo1 hMo1 ⊢
              have hcell1 := hRo1.cell (j := r) (by rw [List.length_set, HWl.out]; omega)
              rw [getD_set (by rw [HWl.out]; omega), if_pos rfl] at hcell1
              have hfr1 := hRo1.free r
              obtain ⟨b3, f3, hb3, as4, _, _⟩ := (HS.out.ext hMo1.ext).get (i := r) (by omega)
              rw [HSR.out] at as4
              simp only [Option.some.injEq, Addr.mk.injEq, and_true] at hb3
              obtain ⟨rfl, rfl⟩ := hb3
              clear as1 as2 as3 hcell hfr
              by_cases hb : tr + 1 < sr
              · have hbump : t'.set r (tr + 1) = bump s s.length t := by
                  have := hBr.out
                  rwa [if_pos hb] at this
                clear hBr
                go_quiet (fail)
                go_wp2_with fail
                go_roundw
                case rel => exact ⟨L - 1, _, n8, _, by go_num, by omega, by omega, hRo1.ext ((Ext.refl _).drewN _), hMo1.next ((Ext.refl _).drewN _), fun _ => by
                  rw [hbump]
                  exact bump_within s (fun j hj => by have := hWt.out.2 j hj; omega) _ _ (Nat.le_refl _) hWt.out, by rw [hbump]; exact hG'.out⟩
                case measure => simp [intOf]; omega
              · have hbump : bump s r (t'.set r 0) = bump s s.length t := by
                  have := hBr.out
                  rwa [if_neg hb] at this
                have hBu := Lib.hid hbump
                clear hBr hbump
                go_quiet (fail)
                go_wp2_with fail
                refine ⟨⟨r, t'.set r 0, by omega, rfl, ?_, (hMo1.next ((Ext.refl _).drewN _)).other (.inr rfl) hne3 (by have := HS1.out; omega) (grown_setCell _ _ _ _), ?_, hBu.out⟩, ?_⟩
                · have h5 := (hRo1.ext ((Ext.refl _).drewN nq)).set r 0
                  rw [List.set_set] at h5
                  exact h5
                · refine ⟨by rw [List.length_set]; exact hWo.out.1, fun j hj => ?_⟩
                  rw [getD_set (by rw [HWl.out]; omega)]
                  have h6 := hWo.out.2 j hj
                  split
                  · subst_vars; omega
                  · exact h6
                · simp [intOf]
    · have hL : L.toNat = 0 := by omega
      have hg := hG.out
      rw [hL, movedGo, List.append_nil] at hg
      subst hg
      have hE2 : Ext w1 wr := hM.ext
      have hlen : (movedGo (fun t => n.getD (atGo axes ys t 0).toNat 0) s sz.toNat (List.replicate s.length 0)).length ≤ 65536 := by
        rw [movedGo_length]; omega
      generalize hres : movedGo (fun t => n.getD (atGo axes ys t 0).toNat 0) s sz.toNat (List.replicate s.length 0) = res at *
      have HRES := Lib.hid hres
      clear hres
      obtain ⟨sa, sb, hv2, _, _⟩ := hM.on.ints
      subst hv2
      have hbx2 := HB2.out.ext hM.ext
      obtain ⟨s0, s1, s2, s3⟩ := hM.box.cell
      obtain ⟨x0, x1, x2, x3⟩ := hbx2.cell
      have y0 := hbx2.free 0
      have y1 := hbx2.free 1
      have y2 := hbx2.free 2
      have y3 := hbx2.free 3
      have hA := MkN.arr (G := fun b => G b ∧ b < w.heap.size) hM hk ⟨p2, cc2, rfl, ⟨u1, u2, u3⟩, HS.out.ext hM.ext⟩ 
      have hEw2 := hE0.trans hM.ext
      have h1 := HS1.out
      have hR := (((hbx2.set0 (.int .i64 k)).set1 (.slice p2 s.length cc2)).set2 (.slice sa res.length sb)).set3 (.slice none 0 0)
      have hA2 := ArrAt.mono (G := fun x => w.heap.size ≤ x ∨ G x) (w' := (((wr.setCell ⟨w.heap.size + 1, 0, none⟩ (.int .i64 k)).setCell ⟨w.heap.size + 1, 1, none⟩ (.slice p2 s.length cc2)).setCell ⟨w.heap.size + 1, 2, none⟩ (.slice sa res.length sb)).setCell ⟨w.heap.size + 1, 3, none⟩ (.slice none 0 0)) (fun x hx _ => by
        have h2 : x ≠ w.heap.size + 1 := by rcases hx with hx | hx <;> omega
        exact ⟨by rcases hx with hx | hx; exact .inl (by omega); exact .inr hx.1, by rw [Below.heap_setCell _ _ _ _ h2, Below.heap_setCell _ _ _ _ h2, Below.heap_setCell _ _ _ _ h2, Below.heap_setCell _ _ _ _ h2]⟩) _ _ _ _ _ hA
      have hE9 : Ext w ((((wr.setCell ⟨w.heap.size + 1, 0, none⟩ (.int .i64 k)).setCell ⟨w.heap.size + 1, 1, none⟩ (.slice p2 s.length cc2)).setCell ⟨w.heap.size + 1, 2, none⟩ (.slice sa res.length sb)).setCell ⟨w.heap.size + 1, 3, none⟩ (.slice none 0 0)) :=
        (((hEw2.setCell (p := ⟨w.heap.size + 1, 0, none⟩) (by simp) _).setCell (p := ⟨w.heap.size + 1, 1, none⟩) (by simp) _).setCell (p := ⟨w.heap.size + 1, 2, none⟩) (by simp) _).setCell (p := ⟨w.heap.size + 1, 3, none⟩) (by simp) _
      clear hG hM hA
      go_wp2_with fail
      generalize (((wr.setCell ⟨w.heap.size + 1, 0, none⟩ (.int .i64 k)).setCell ⟨w.heap.size + 1, 1, none⟩ (.slice p2 s.length cc2)).setCell ⟨w.heap.size + 1, 2, none⟩ (.slice sa res.length sb)).setCell ⟨w.heap.size + 1, 3, none⟩ (.slice none 0 0) = w9 at *
      obtain ⟨t0, t1, t2, t3⟩ := hR.cell
      refine bodyPost_ret (v := .agg #[.int .i64 k, .slice p2 s.length cc2, (.slice sa res.length sb), (.slice none 0 0)]) ?_ rfl ⟨_, _, _, _, rfl, by rw [HRES.out]; exact hA2, hE9⟩
      simp [results, Try.results64, go_sem, t0, t1, t2, t3]

set_option maxRecDepth 100000 in
set_option maxHeartbeats 8000000 in
/-- transposing.moved at an array of items. -/
theorem movedI_any (F G H : Nat → Prop) (p1 p2 : Option Addr) (cc1 cc2 : Nat) (axes s ys : List Int) (k : Int) (n : List Int) (it : List Arr) (d0 d1 d2 d3 : Value) (w : World) (hk3 : (k == 3) = true)
    (hax : IntsAt F w p1 axes) (hs : IntsAt G w p2 s) (hsk : SlOk s.length cc2) (hy : ArrAt H w (.mk k ys n it) d0 d1 d2 d3) (hla : axes.length ≤ lenMax)
    (hfit : AxesFit axes ys s) (hr : rightGo 1 ys = true) (hN : (∀ j, j < ys.length → ys.getD j 0 ≠ 0) → prodGo 1 ys = it.length) :
    Calls Try.prog 64 #[.slice p1 axes.length cc1, .agg #[d0, d1, d2, d3], .slice p2 s.length cc2] w fun e w' =>
      ∃ c0 c1 c2 c3, e = .returned (.agg #[c0, c1, c2, c3]) ∧ ArrAt (fun b => w.heap.size ≤ b ∨ G b) w' (.mk k s [] (movedGo (fun t => it.getD (atGo axes ys t 0).toNat default) s (shapeSize s).toNat (List.replicate s.length 0))) c0 c1 c2 c3 ∧ Ext w w' := by
  unfold ArrAt at hy
  obtain ⟨rfl, hk, ⟨q1, m1, rfl, ⟨o1, o1', o1''⟩, i1⟩, ⟨q2, m2, rfl, ⟨o2, o2', o2''⟩, i2⟩, ⟨q3, m3, rfl, ⟨o3, o3', o3''⟩, i3⟩⟩ := hy
  obtain ⟨u1, u2, u3⟩ := hsk
  replace hs : IntsAt (fun b => G b ∧ b < w.heap.size) w p2 s := hs.mono fun b hb hlt => ⟨⟨hb, hlt⟩, rfl⟩
  unfold lenMax at hla
  have hmk : ∀ (w : World), (Instr.makeSlice 23 (.int .i64 (s.length : Int)) (.int .i64 (s.length : Int))).run Try.prog w = .ok (.slice (some ⟨w.heap.size, 0, none⟩) s.length s.length) (w.alloc (.cells (madeCells #[.int .i64 0] s.length) 3)) := by
    intro w
    obtain ⟨i0, hi, hz0, hz1, hz2⟩ := info_parts infoI
    have := run_make (P := Try.prog) w 23 3 i0 (.int .i64 0) Try.underlying23 hi hz0 .i64 .i64 s.length s.length (by omega) (by omega) (by rw [hz2]; omega) (by omega)
    rw [hz1] at this
    simpa [Value.cells] using this
  have HFIT := Lib.hid hfit
  have HR := Lib.hid hr
  have HN := Lib.hid hN
  have hsz := shapeSize_hi s
  generalize hsz' : shapeSize s = sz at *
  have HSZ := Lib.hid hsz'
  clear hfit hr hN hsz'
  go_enter Try.func64, Try.ntmps64
  go_wp2_with fail
  go_step3
  go_wp2_with fail
  have hE0 : Ext w ((w.alloc (.cells #[.int .i64 k, .slice q1 ys.length m1, .slice q2 n.length m2, .slice q3 it.length m3] 26)).alloc (.cells #[.int .i64 0, .slice none 0 0, .slice none 0 0, .slice none 0 0] 26)) := ((Ext.refl _).alloc _).alloc _
  have hB1 := (box_new w (.int .i64 k) (.slice q1 ys.length m1) (.slice q2 n.length m2) (.slice q3 it.length m3)).ext ((Ext.refl _).alloc (.cells #[.int .i64 0, .slice none 0 0, .slice none 0 0, .slice none 0 0] 26))
  have hB2 := box_new (w.alloc (.cells #[.int .i64 k, .slice q1 ys.length m1, .slice q2 n.length m2, .slice q3 it.length m3] 26)) (.int .i64 0) (.slice none 0 0) (.slice none 0 0) (.slice none 0 0)
  have hsz1 : ((w.alloc (.cells #[.int .i64 k, .slice q1 ys.length m1, .slice q2 n.length m2, .slice q3 it.length m3] 26)).alloc (.cells #[.int .i64 0, .slice none 0 0, .slice none 0 0, .slice none 0 0] 26)).heap.size = w.heap.size + 2 := by simp
  rw [World.size_alloc] at hB2
  generalize (w.alloc (.cells #[.int .i64 k, .slice q1 ys.length m1, .slice q2 n.length m2, .slice q3 it.length m3] 26)).alloc (.cells #[.int .i64 0, .slice none 0 0, .slice none 0 0, .slice none 0 0] 26) = w1 at hE0 hB1 hB2 hsz1 ⊢
  have hO := (box_new w1 (.int .i64 k) (.slice p2 s.length cc2) (.slice none 0 0) (.slice none 0 0)).ext ((Ext.refl _).alloc (.cells (madeCells #[.int .i64 0] s.length) 3))
  have hI := RowI.made (w := w1.alloc (.cells #[.int .i64 k, .slice p2 s.length cc2, .slice none 0 0, .slice none 0 0] 26)) s.length
  have hE1 : Ext w1 ((w1.alloc (.cells #[.int .i64 k, .slice p2 s.length cc2, .slice none 0 0, .slice none 0 0] 26)).alloc (.cells (madeCells #[.int .i64 0] s.length) 3)) := ((Ext.refl _).alloc _).alloc _
  have hlt4 : ((w1.alloc (.cells #[.int .i64 k, .slice p2 s.length cc2, .slice none 0 0, .slice none 0 0] 26)).alloc (.cells (madeCells #[.int .i64 0] s.length) 3)).heap.size = w1.heap.size + 2 := by simp
  rw [World.size_alloc] at hI
  rw [hsz1] at hO hI hlt4
  generalize (w1.alloc (.cells #[.int .i64 k, .slice p2 s.length cc2, .slice none 0 0, .slice none 0 0] 26)).alloc (.cells (madeCells #[.int .i64 0] s.length) 3) = w4 at hO hI hE1 hlt4 ⊢
  have hM0 : MkI w1 w4 (fun x => x = w.heap.size + 2 ∨ x = w.heap.size + 3) (w.heap.size + 2) k (.slice p2 s.length cc2) (.slice none 0 0) [] :=
    ⟨hE1, by omega, hO, .inl rfl, fun x hx => by omega, OwnA.nil _ _ _⟩
  have HS1 := Lib.hid hsz1
  have HB1 := Lib.hid hB1
  have HB2 := Lib.hid hB2
  have hEw := hE0.trans hE1
  have HI0 := Lib.hid hI
  have HM0 := Lib.hid hM0
  have HAX := Lib.hid (hax.ext hE0)
  have HS := Lib.hid (hs.ext hE0)
  have HY := Lib.hid (i1.ext hE0)
  have HV := Lib.hid (i3.ext hE0)
  clear hB1 hB2 hO hI hE1 hM0 hlt4 hsz1 hmk
  refine (size_any _ p2 cc2 s _ (hs.ext hEw) (by unfold lenMax; omega)).mono ?_
  rintro e w5 ⟨rfl, rfl⟩
  rw [HSZ.out]
  clear hax hs i1 i2 i3
  have hsz0 : -1 ≤ sz := by rw [← HSZ.out]; exact shapeSize_lo s
  go_wp2_with fail
  go_step3
  go_wp2_with fail
  go_loopw [9] (fun l wr => ∃ (L : Int) (t : List Int) (n' : List Arr) (v2 : Value), l = .int .i64 L ∧ -1 ≤ L ∧ (n'.length : Int) + L.toNat ≤ 65536 ∧ RowI wr (w.heap.size + 3) t ∧ MkI w1 wr (fun x => x = w.heap.size + 2 ∨ x = w.heap.size + 3) (w.heap.size + 2) k (.slice p2 s.length cc2) v2 n' ∧
      Hid (0 < L → Within s t) ∧ Hid (n' ++ movedGo (fun t => it.getD (atGo axes ys t 0).toNat default) s L.toNat t = movedGo (fun t => it.getD (atGo axes ys t 0).toNat default) s sz.toNat (List.replicate s.length 0))) (fun l _ => (intOf l).toNat)
  case atStart => exact ⟨sz, _, [], _, rfl, hsz0, by simp; omega, HI0.out, HM0.out, fun h => within_zero s (shapeSize_pos (by rw [HSZ.out]; exact h)), rfl⟩
  case round =>
    obtain ⟨L, t, n', v2, rfl, hL0, hnl, hRow, hM, hW, hG⟩ := hrel
    clear HI0 HM0
    by_cases hpos : 0 < L
    · have hWt := Lib.hid (hW.out hpos)
      clear hW
      have hAt := Lib.hid (atGo_bd axes ys s t 0 1 HFIT.out hWt.out (by omega) (by omega))
      generalize hA : atGo axes ys t 0 = A at *
      have HA := Lib.hid hA
      clear hA
      have hyz : ∀ j, j < ys.length → ys.getD j 0 ≠ 0 := by
        intro j hj
        have h1 := HFIT.out.2 j (by rw [HFIT.out.1]; exact hj)
        have h2 := hWt.out.2 _ h1.2.1
        omega
      have hAlt : 0 ≤ A ∧ A < (it.length : Int) := by
        have := hAt.out
        rw [HN.out hyz] at this
        exact this
      have hG' : Hid ((n' ++ [it.getD A.toNat default]) ++ movedGo (fun t => it.getD (atGo axes ys t 0).toNat default) s (L - 1).toNat (bump s s.length t) = movedGo (fun t => it.getD (atGo axes ys t 0).toNat default) s sz.toNat (List.replicate s.length 0)) := by
        have h1 := hG.out
        rw [show L.toNat = (L - 1).toNat + 1 by omega, movedGo, hWt.out.1, HA.out] at h1
        rw [List.append_assoc]
        exact h1
      have hE1 : Ext w1 wr := hM.ext
      obtain ⟨yb0, yb1, yb2, yb3⟩ := (HB1.out.ext hE1).cell
      obtain ⟨ob0, ob1, ob2, ob3⟩ := hM.box.cell
      obtain ⟨hA0, hA1⟩ := hAlt
      have hHN := Lib.hid hyz
      clear hG hAt hyz
      go_wp2_with fail
      go_loopw [10, 27] (fun at' i wq => ∃ (q : Nat) (acc p : Int), q ≤ axes.length ∧ i = .int .i64 q ∧ at' = .int .i64 acc ∧ 0 ≤ acc ∧ acc < p ∧ p ≤ 65536 ∧ Ext wr wq ∧ Hid (rightGo p (ys.drop q) = true) ∧ Hid (atGo (axes.drop q) (ys.drop q) t acc = A)) (fun _ i _ => axes.length - (intOf i).toNat)
      case atStart => exact ⟨0, 0, 1, Nat.zero_le _, rfl, rfl, by omega, by omega, by omega, Ext.refl _, HR.out, HA.out⟩
      case round =>
        obtain ⟨q, acc, p, hq, rfl, rfl, hacc0, hacc1, hp, hEq, HRq, HAq⟩ := hrel
        by_cases hlt : q < axes.length
        · have hqy : q < ys.length := by rw [← HFIT.out.1]; exact hlt
          obtain ⟨b1, f1, rfl, ax1, _, _⟩ := (HAX.out.ext (hE1.trans hEq)).get hlt
          obtain ⟨b2, f2, rfl, ay1, _, _⟩ := (HY.out.ext (hE1.trans hEq)).get hqy
          have hfq := HFIT.out.2 q hlt
          have hyb1 := hEq.cell yb1
          have HD1 := Lib.hid (drop_getD hlt)
          have HD2 := Lib.hid (drop_getD hqy)
          have hnz := hHN.out q hqy
          obtain ⟨fa, fb, fc⟩ := hfq
          have hrow := (hRow.ext hEq).cell (j := (axes.getD q 0).toNat) (by rw [hWt.out.1]; exact fb)
          have hwt := hWt.out.2 _ fb
          generalize axes.getD q 0 = a at *
          generalize ys.getD q 0 = y at *
          have h3 := HRq.out
          rw [HD2.out] at h3
          obtain ⟨y0, y1, y2, y3⟩ := rightGo_cons h3 hnz
          have HR' := Lib.hid y3
          have h4 := HAq.out
          rw [HD1.out, HD2.out, atGo] at h4
          have HA' := Lib.hid h4
          obtain ⟨w0, w1'⟩ := hwt
          generalize t.getD a.toNat 0 = td at *
          have e1 : acc * y ≤ (p - 1) * y := Int.mul_le_mul_of_nonneg_right (by omega) (by omega)
          have e2 : 0 ≤ acc * y := Int.mul_nonneg hacc0 (by omega)
          rw [Int.sub_mul, Int.one_mul] at e1
          have hba : a < (s.length : Int) := by omega
          clear h3 h4 y3 HD1 HD2 HRq HAq hnz yb0 yb1 yb2 yb3 ob0 ob1 ob2 ob3
          go_wp2_with fail
          go_quiet (fail)
          go_wp2_with fail
          go_roundw
          case rel => exact ⟨q + 1, acc * y + td, p * y, by omega, by go_num, rfl, by omega, by omega, y2, hEq.drewN _, HR'.out, HA'.out⟩
          case measure => simp [intOf]; omega
        · have hAe : acc = A := by
            have := HAq.out
            rw [List.drop_of_length_le (by omega)] at this
            unfold atGo at this
            exact this
          subst hAe
          clear HRq HAq yb0 yb1 yb2 yb3 ob0 ob1 ob2 ob3
          have hM2 := hM.next hEq
          have hRow2 := hRow.ext hEq
          obtain ⟨yb0, yb1, yb2, yb3⟩ := (HB1.out.ext hM2.ext).cell
          obtain ⟨ob0, ob1, ob2, ob3⟩ := hM2.box.cell
          clear hM hRow
          go_wp2_with fail
          obtain ⟨bi, off, x0, x1, x2, x3, hq3, _, g0, g1, g2, g3, hx⟩ := ItemsAt.get it _ 0 acc.toNat HV.out (by omega)
          rw [Nat.zero_add] at g0 g1 g2 g3
          subst hq3
          have hxe : it.getD acc.toNat default = it[acc.toNat]'(by omega) := by rw [List.getD, List.getElem?_eq_getElem (by omega)]; rfl
          rw [← hxe] at hx
          clear hxe
          generalize it.getD acc.toNat default = x at *
          obtain ⟨y0, pp1, l1, u1', pp2, l2, u2', pp3, l3, u3', rfl, rfl, rfl, rfl⟩ := hx.form
          obtain ⟨_, _, _, yc3⟩ := HB1.out.cell
          have hS0 : Ext w1 wr.drew ∧ wr.drew.cell? ⟨w.heap.size + 2, 3, none⟩ = some v2 := ⟨hM2.ext.drew, ob3⟩
          refine wp_region_g [0, 1, 2, 3, 4, 5, 6] [7, 8, 9, 10, 11] (fun w' => Ext w1 w' ∧ w'.cell? ⟨w.heap.size + 2, 3, none⟩ = some v2) (by kernel_rfl) (by kernel_rfl) hS0 ?_
          iterate 7
            refine wpHead_cons (v := ?_) rfl (by rfl) (fun w' hS => ?_) ?_
            rotate_left
            · obtain ⟨hS1, hS2⟩ := hS
              have e0 := hS1.cell yc3
              have e1 := hS1.cell g0
              have e2 := hS1.cell g1
              have e3 := hS1.cell g2
              have e4 := hS1.cell g3
              go_simp
              try with_reducible rfl
            try simp only [Act.put, List.setIfInBounds_toArray, List.set]
          unfold wpHead
          refine wpTail_cons rfl (fun K hK => ?_)
          clear yc3 g0 g1 g2 g3 yb0 yb1 yb2 yb3 ob0 ob1 ob2 ob3
          go_wp2_with fail
          refine (clone_any (SizeOf.sizeOf x + 1) H x _ _ _ _ _ (by omega) (hx.ext hS0.1)).mono ?_
          rintro e w3 ⟨y0, y1, y2, y3, rfl, hy, hE3⟩
          have hEr : Ext wr w3 := Ext.trans ((Ext.refl _).drew) hE3
          have hM3 := hM2.next hEr
          have hS3 : Ext w1 w3 ∧ w3.cell? ⟨w.heap.size + 2, 3, none⟩ = some v2 := ⟨hM3.ext, hM3.box.cell.2.2.2⟩
          have hRow3 := hRow2.ext hEr
          go_wp2_with fail
          refine hK _ _ hS3 ?_
          try simp only [Act.put, List.setIfInBounds_toArray, List.set]
          refine wpTail_cons rfl (fun K hK => ?_)
          have hY := ArrAt.mono (G := Apart w1.heap.size (fun x => x = w.heap.size + 2 ∨ x = w.heap.size + 3) v2) (w' := w3) (fun q hq _ => ⟨hM2.apart q hq, rfl⟩) _ _ _ _ _ hy
          obtain ⟨yk, pq1, mm1, n1, pq2, mm2, n2, pq3, mm3, n3, rfl, rfl, rfl, rfl⟩ := hY.form
          clear hx hy hE3 hM2 hRow2 hS0
          go_wp2_with fail
          have hM4 := hM3.next ((Ext.refl _).alloc (.cells #[.int .i64 yk, .slice pq1 mm1 n1, .slice pq2 mm2 n2, .slice pq3 mm3 n3] 26))
          have hRow4 := hRow3.ext ((Ext.refl _).alloc (.cells #[.int .i64 yk, .slice pq1 mm1 n1, .slice pq2 mm2 n2, .slice pq3 mm3 n3] 26))
          have hbx4 := box_new w3 (.int .i64 yk) (.slice pq1 mm1 n1) (.slice pq2 mm2 n2) (.slice pq3 mm3 n3)
          have hY4 := hY.ext ((Ext.refl _).alloc (.cells #[.int .i64 yk, .slice pq1 mm1 n1, .slice pq2 mm2 n2, .slice pq3 mm3 n3] 26))
          generalize w3.alloc (.cells #[.int .i64 yk, .slice pq1 mm1 n1, .slice pq2 mm2 n2, .slice pq3 mm3 n3] 26) = w4 at *
          refine hK _ _ ⟨hM4.ext, hM4.box.cell.2.2.2⟩ ?_
          try simp only [Act.put, List.setIfInBounds_toArray, List.set]
          refine wpTail_cons rfl (fun K hK => ?_)
          refine wpList_append_arr rfl _ _ rfl w1.heap.size (fun x => x = w.heap.size + 2 ∨ x = w.heap.size + 3) v2 n'.length n' x _ _ _ _ rfl hM4.oi _ _ rfl hbx4 hM4.xl hY4 (by omega) hM4.ext.lt ?_
          intro g cap w8 hon8 hgrow _ _ _
          obtain ⟨q1, q2, q3⟩ := hM4.grown hgrow
          obtain ⟨_, _, _, t3⟩ := q2.cell
          have tf := q2.free 3
          obtain ⟨hM8, hfar⟩ := hM4.stored (v3' := .slice (some ⟨g, 0, none⟩) (n'.length + 1) cap) (l' := n' ++ [x]) hgrow (by rw [List.length_append]; exact hon8)
          have hRow8 := hRow4.kept (hfar (w.heap.size + 3) (.inr rfl) (by omega))
          have hlen8 : (n' ++ [x]).length = n'.length + 1 := by simp
          refine hK _ _ ⟨q1, t3⟩ ?_
          try simp only [Act.put, List.setIfInBounds_toArray, List.set]
          refine wpTail_free2 rfl rfl (by kernel_rfl) ?_
          clear hM3 hM4 hbx4 hY4 hY hon8 hgrow q1 q2 q3 hS3 hfar hRow3 hRow4 hEr
          go_wp2_with fail
          refine OnlyN.mk ?_
          generalize n' ++ [x] = n8 at *
          have HM8 := Lib.hid hM8
          have HRow8 := Lib.hid hRow8
          clear hM8 hRow8
          go_wp2_with fail
          go_loopw [13] (fun i wq => ∃ (q : Nat) (t' : List Int), q ≤ s.length ∧ i = .int .i64 ((q : Int) - 1) ∧ RowI wq (w.heap.size + 3) t' ∧ MkI w1 wq (fun x => x = w.heap.size + 2 ∨ x = w.heap.size + 3) (w.heap.size + 2) k (.slice p2 s.length cc2) (.slice (some ⟨g, 0, none⟩) (n'.length + 1) cap) n8 ∧ Hid (Within s t') ∧ Hid (bump s q t' = bump s s.length t)) (fun i _ => (intOf i + 1).toNat)
          case atStart => exact ⟨s.length, t, Nat.le_refl _, by simp, HRow8.out, HM8.out, hWt.out, rfl⟩
          case round =>
            obtain ⟨r, t', hr, rfl, hRo, hMo, hWo, hBo⟩ := hrel
            clear HM8 HRow8
            cases r with
            | zero =>
              have hfin : t' = bump s s.length t := hBo.out
              subst hfin
              clear hBo
              go_wp2_with fail
              go_roundw
              case rel => exact ⟨L - 1, _, n8, _, by go_num, by omega, by omega, hRo, hMo, fun _ => hWo.out, hG'.out⟩
              case measure => simp [intOf]; omega
            | succ r =>
              have hWl := hWo.out.1
              have hj := hWo.out.2 r (by omega)
              have hcell := hRo.cell (j := r) (by omega)
              have hfr := hRo.free r
              obtain ⟨b2, f2, rfl, as1, as2, as3⟩ := (HS.out.ext hMo.ext).get (i := r) (by omega)
              have hB := hBo.out
              rw [bump] at hB
              have hBr := Lib.hid hB
              obtain ⟨hj0, hj1⟩ := hj
              have hne3 : w.heap.size + 3 ≠ w.heap.size + 2 := by omega
              have hRo1 := hRo.set r (t'.getD r 0 + 1)
              have hMo1 := hMo.other (.inr rfl) hne3 (by have := HS1.out; omega) (grown_setCell wr (w.heap.size + 3) r (.int .i64 (t'.getD r 0 + 1)))
              clear hB hBo hRo hMo
              generalize t'.getD r 0 = tr at *
              generalize hsr : s.getD r 0 = sr at *
              have HSR := Lib.hid hsr
              clear hsr
              have HWl := Lib.hid hWl
              clear hWl
              go_wp2_with fail
              generalize wr.setCell ⟨w.heap.size + 3, r, none⟩ (.int .i64 (tr + 1)) = w6 at hRo1 hMo1 ⊢
              have hcell1 := hRo1.cell (j := r) (by rw [List.length_set, HWl.out]; omega)
              rw [getD_set (by rw [HWl.out]; omega), if_pos rfl] at hcell1
              have hfr1 := hRo1.free r
              obtain ⟨b3, f3, hb3, as4, _, _⟩ := (HS.out.ext hMo1.ext).get (i := r) (by omega)
              rw [HSR.out] at as4
              simp only [Option.some.injEq, Addr.mk.injEq, and_true] at hb3
              obtain ⟨rfl, rfl⟩ := hb3
              clear as1 as2 as3 hcell hfr
              by_cases hb : tr + 1 < sr
              · have hbump : t'.set r (tr + 1) = bump s s.length t := by
                  have := hBr.out
                  rwa [if_pos hb] at this
                clear hBr
                go_quiet (fail)
                go_wp2_with fail
                go_roundw
                case rel => exact ⟨L - 1, _, n8, _, by go_num, by omega, by omega, hRo1.ext ((Ext.refl _).drewN _), hMo1.next ((Ext.refl _).drewN _), fun _ => by
                  rw [hbump]
                  exact bump_within s (fun j hj => by have := hWt.out.2 j hj; omega) _ _ (Nat.le_refl _) hWt.out, by rw [hbump]; exact hG'.out⟩
                case measure => simp [intOf]; omega
              · have hbump : bump s r (t'.set r 0) = bump s s.length t := by
                  have := hBr.out
                  rwa [if_neg hb] at this
                have hBu := Lib.hid hbump
                clear hBr hbump
                go_quiet (fail)
                go_wp2_with fail
                refine ⟨⟨r, t'.set r 0, by omega, rfl, ?_, (hMo1.next ((Ext.refl _).drewN _)).other (.inr rfl) hne3 (by have := HS1.out; omega) (grown_setCell _ _ _ _), ?_, hBu.out⟩, ?_⟩
                · have h5 := (hRo1.ext ((Ext.refl _).drewN nq)).set r 0
                  rw [List.set_set] at h5
                  exact h5
                · refine ⟨by rw [List.length_set]; exact hWo.out.1, fun j hj => ?_⟩
                  rw [getD_set (by rw [HWl.out]; omega)]
                  have h6 := hWo.out.2 j hj
                  split
                  · subst_vars; omega
                  · exact h6
                · simp [intOf]
    · have hL : L.toNat = 0 := by omega
      have hg := hG.out
      rw [hL, movedGo, List.append_nil] at hg
      subst hg
      have hE2 : Ext w1 wr := hM.ext
      have hlen : (movedGo (fun t => it.getD (atGo axes ys t 0).toNat default) s sz.toNat (List.replicate s.length 0)).length ≤ 65536 := by
        rw [movedGo_length]; omega
      generalize hres : movedGo (fun t => it.getD (atGo axes ys t 0).toNat default) s sz.toNat (List.replicate s.length 0) = res at *
      have HRES := Lib.hid hres
      clear hres
      obtain ⟨sa, sb, hv2, _, _⟩ := hM.oi.items (by omega)
      subst hv2
      have hbx2 := HB2.out.ext hM.ext
      obtain ⟨s0, s1, s2, s3⟩ := hM.box.cell
      obtain ⟨x0, x1, x2, x3⟩ := hbx2.cell
      have y0 := hbx2.free 0
      have y1 := hbx2.free 1
      have y2 := hbx2.free 2
      have y3 := hbx2.free 3
      have hA := MkI.arr (G := fun b => G b ∧ b < w.heap.size) hM hk ⟨p2, cc2, rfl, ⟨u1, u2, u3⟩, HS.out.ext hM.ext⟩ (by omega)
      have hEw2 := hE0.trans hM.ext
      have h1 := HS1.out
      have hR := (((hbx2.set0 (.int .i64 k)).set1 (.slice p2 s.length cc2)).set2 (.slice none 0 0)).set3 (.slice sa res.length sb)
      have hA2 := ArrAt.mono (G := fun x => w.heap.size ≤ x ∨ G x) (w' := (((wr.setCell ⟨w.heap.size + 1, 0, none⟩ (.int .i64 k)).setCell ⟨w.heap.size + 1, 1, none⟩ (.slice p2 s.length cc2)).setCell ⟨w.heap.size + 1, 2, none⟩ (.slice none 0 0)).setCell ⟨w.heap.size + 1, 3, none⟩ (.slice sa res.length sb)) (fun x hx _ => by
        have h2 : x ≠ w.heap.size + 1 := by rcases hx with hx | hx <;> omega
        exact ⟨by rcases hx with hx | hx; exact .inl (by omega); exact .inr hx.1, by rw [Below.heap_setCell _ _ _ _ h2, Below.heap_setCell _ _ _ _ h2, Below.heap_setCell _ _ _ _ h2, Below.heap_setCell _ _ _ _ h2]⟩) _ _ _ _ _ hA
      have hE9 : Ext w ((((wr.setCell ⟨w.heap.size + 1, 0, none⟩ (.int .i64 k)).setCell ⟨w.heap.size + 1, 1, none⟩ (.slice p2 s.length cc2)).setCell ⟨w.heap.size + 1, 2, none⟩ (.slice none 0 0)).setCell ⟨w.heap.size + 1, 3, none⟩ (.slice sa res.length sb)) :=
        (((hEw2.setCell (p := ⟨w.heap.size + 1, 0, none⟩) (by simp) _).setCell (p := ⟨w.heap.size + 1, 1, none⟩) (by simp) _).setCell (p := ⟨w.heap.size + 1, 2, none⟩) (by simp) _).setCell (p := ⟨w.heap.size + 1, 3, none⟩) (by simp) _
      clear hG hM hA
      go_wp2_with fail
      generalize (((wr.setCell ⟨w.heap.size + 1, 0, none⟩ (.int .i64 k)).setCell ⟨w.heap.size + 1, 1, none⟩ (.slice p2 s.length cc2)).setCell ⟨w.heap.size + 1, 2, none⟩ (.slice none 0 0)).setCell ⟨w.heap.size + 1, 3, none⟩ (.slice sa res.length sb) = w9 at *
      obtain ⟨t0, t1, t2, t3⟩ := hR.cell
      refine bodyPost_ret (v := .agg #[.int .i64 k, .slice p2 s.length cc2, (.slice none 0 0), (.slice sa res.length sb)]) ?_ rfl ⟨_, _, _, _, rfl, by rw [HRES.out]; exact hA2, hE9⟩
      simp [results, Try.results64, go_sem, t0, t1, t2, t3]
end Go.Proofs.Ytcmnlnamgnbemaa
