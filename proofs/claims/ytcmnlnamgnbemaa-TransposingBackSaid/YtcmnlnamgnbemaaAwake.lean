/-
  THE WALK of law21.awake. (Printed by gen_awake.py.)
-/
import Derived.Test.YtcmnlnamgnbemaaAwake0
namespace Go.Proofs.Ytcmnlnamgnbemaa
open Go.RowKit
set_option linter.unusedSimpArgs false
set_option linter.unusedVariables false

theorem ArrAt.mono' {F G : Nat → Prop} {w : World} {t : Arr} {c0 c1 c2 c3 : Value} (h : ArrAt F w t c0 c1 c2 c3) (hF : ∀ b, F b → b < w.heap.size → G b) : ArrAt G w t c0 c1 c2 c3 :=
  ArrAt.mono (fun b hb hl => ⟨hF b hb hl, rfl⟩) _ _ _ _ _ h

theorem axesAt (F G : Nat → Prop) (x y res : Arr) (err : Int) (c0 c1 c2 c3 d0 d1 d2 d3 : Value) (w : World) (he : axesV x y = (res, err)) (hx : ArrAt F w x c0 c1 c2 c3) (hy : ArrAt G w y d0 d1 d2 d3) :
    Calls Try.prog 33 #[.agg #[c0, c1, c2, c3], .agg #[d0, d1, d2, d3]] w fun e w' =>
      ∃ e0 e1 e2 e3, e = .returned (.tuple #[.agg #[e0, e1, e2, e3], .int .i64 err]) ∧ ArrAt (fun b => w.heap.size ≤ b) w' res e0 e1 e2 e3 ∧ Ext w w' := by
  have h := axes_any F G x y c0 c1 c2 c3 d0 d1 d2 d3 w hx hy
  rw [he] at h
  exact h
theorem revAt (G : Nat → Prop) (y res : Arr) (d0 d1 d2 d3 : Value) (w : World) (he : reverseV y = res) (hy : ArrAt G w y d0 d1 d2 d3) :
    Calls Try.prog 35 #[.agg #[d0, d1, d2, d3]] w fun e w' =>
      ∃ e0 e1 e2 e3, e = .returned (.agg #[e0, e1, e2, e3]) ∧ ArrAt (fun b => w.heap.size ≤ b) w' res e0 e1 e2 e3 ∧ Ext w w' := by
  have h := reverse_any G y d0 d1 d2 d3 w hy
  rw [he] at h
  exact h
theorem sameAt (F G : Nat → Prop) (t : Arr) (c0 c1 c2 c3 d0 d1 d2 d3 : Value) (w : World) (hx : ArrAt F w t c0 c1 c2 c3) (hy : ArrAt G w t d0 d1 d2 d3) :
    Calls Try.prog 22 #[.agg #[c0, c1, c2, c3], .agg #[d0, d1, d2, d3]] w fun e w' => e = .returned (.bool true) ∧ Ext w w' := by
  have h := same_any F G _ t t c0 c1 c2 c3 d0 d1 d2 d3 w (Nat.lt_succ_self _) hx hy
  rw [(sameV_eq t t).2 rfl] at h
  exact h

set_option maxRecDepth 100000 in
set_option maxHeartbeats 40000000 in
/-- law21.awake. -/
theorem awake_any (w : World) : Calls Try.prog 32 #[] w fun e w' => e = .returned (.bool true) ∧ Ext w w' := by
  go_enter Try.func32, Try.ntmps32
  go_wp2_with fail
  have hI := (rowI_new w [1, 2, 3, 4, 5, 6]).ints (by decide)
  change IntsAt _ (w.alloc (.cells #[.int .i64 1, .int .i64 2, .int .i64 3, .int .i64 4, .int .i64 5, .int .i64 6] 3)) _ _ at hI
  have hE0 := (Ext.refl w).alloc (.cells #[.int .i64 1, .int .i64 2, .int .i64 3, .int .i64 4, .int .i64 5, .int .i64 6] 3)
  generalize w.alloc (.cells #[.int .i64 1, .int .i64 2, .int .i64 3, .int .i64 4, .int .i64 5, .int .i64 6] 3) = w0 at *
  refine (mat_any _ _ 6 [1, 2, 3, 4, 5, 6] 2 3 w0 hI ⟨by decide, by decide, by decide⟩ (by omega) (by omega)).mono ?_
  rintro e wa ⟨k0, k1, k2, k3, rfl, hA, hX⟩
  obtain ⟨km, pm1, lm1, mm1, pm2, lm2, mm2, pm3, lm3, mm3, rfl, rfl, rfl, rfl⟩ := hA.form
  go_wp2_with fail
  have hB := box_new wa (.int .i64 km) (.slice pm1 lm1 mm1) (.slice pm2 lm2 mm2) (.slice pm3 lm3 mm3)
  have HM := Lib.hid ((hA.mono' (G := fun _ => True) (fun _ _ _ => trivial)).ext ((Ext.refl wa).alloc (.cells #[.int .i64 km, .slice pm1 lm1 mm1, .slice pm2 lm2 mm2, .slice pm3 lm3 mm3] 26)))
  have hE1 := (hE0.trans hX).trans ((Ext.refl wa).alloc (.cells #[.int .i64 km, .slice pm1 lm1 mm1, .slice pm2 lm2 mm2, .slice pm3 lm3 mm3] 26))
  have HMB := Lib.hid hB
  generalize wa.heap.size = mb at *
  generalize wa.alloc (.cells #[.int .i64 km, .slice pm1 lm1 mm1, .slice pm2 lm2 mm2, .slice pm3 lm3 mm3] 26) = wb1 at *
  clear hI hE0 hA hX hB
  go_cut [2, 3] (fun sa sb wx => ∃ (b : Nat) (a0 a1 a2 a3 : Value), sa = .pointer (some ⟨b, 0, none⟩) ∧ sb = .int .i64 0 ∧ Box4 wx b a0 a1 a2 a3 ∧ ArrAt (fun _ => True) wx (.mk 1 [2] [1, 5] []) a0 a1 a2 a3 ∧ Ext wb1 wx)
  case first =>
    obtain ⟨m0, m1, m2, m3⟩ := HMB.out.cell
    refine wp_region_g0 [2] 9 #[false, false, true, false, false, false, false, false, false, false] (fun w' => Ext wb1 w') (by kernel_rfl) (by kernel_rfl) ((Ext.refl _).drew) ?_
    refine wpHead_cons (v := ?_) rfl (by rfl) (fun w' hS => ?_) ?_
    rotate_left
    · have g0 := hS.cell m0
      have g1 := hS.cell m1
      have g2 := hS.cell m2
      have g3 := hS.cell m3
      go_simp
      try with_reducible rfl
    try simp only [Act.put, List.setIfInBounds_toArray, List.set]
    unfold wpHead
    have hW : Ext wb1 wb1.drew := (Ext.refl _).drew
    generalize wb1.drew = wv0 at hW ⊢
    clear m0 m1 m2 m3
    refine wpAnyG_two (i := 0) (j := 7) (by kernel_rfl) ⟨_, rfl, fun K hK => ?_⟩ ⟨_, rfl, fun K hK => ?_⟩
    · skip
      go_wp2_with fail
      refine hK _ _ (hW.trans ((Ext.refl _).alloc (.cells #[.int .i64 0, .int .i64 0] 3))) ?_
      try simp only [Act.put, List.setIfInBounds_toArray, List.set]
      have hI := (rowI_new wv0 [0, 0]).ints (by decide)
      change IntsAt _ (wv0.alloc (.cells #[.int .i64 0, .int .i64 0] 3)) _ _ at hI
      have hX' := (Ext.refl wv0).alloc (.cells #[.int .i64 0, .int .i64 0] 3)
      replace hW := hW.trans hX'
      generalize wv0.alloc (.cells #[.int .i64 0, .int .i64 0] 3) = wv1 at *
      clear hX'
      refine wpAnyG_two (i := 1) (j := 7) (by kernel_rfl) ⟨_, rfl, fun K hK => ?_⟩ ⟨_, rfl, fun K hK => ?_⟩
      · skip
        go_wp2_with fail
        refine (vec_any _ _ 2 [0, 0] wv1 hI ⟨by decide, by decide, by decide⟩).mono ?_
        rintro e wv2 ⟨v0, v1, v2, v3, rfl, hV, hX⟩
        have hX' := hX
        replace hW := hW.trans hX'
        replace hI := hI.ext hX'
        clear hX'
        go_wp2_with fail
        refine hK _ _ hW ?_
        try simp only [Act.put, List.setIfInBounds_toArray, List.set]
        clear hX
        refine wpAnyG_two (i := 3) (j := 7) (by kernel_rfl) ⟨_, rfl, fun K hK => ?_⟩ ⟨_, rfl, fun K hK => ?_⟩
        · skip
          go_wp2_with fail
          refine (axesAt _ _ _ _ _ _ _ _ _ _ _ _ _ _ wv2 ex1 hV (HM.out.ext hW)).mono ?_
          rintro e wv3 ⟨a0, a1, a2, a3, rfl, hA, hX⟩
          obtain ⟨ka, pa1, la1, ma1, pa2, la2, ma2, pa3, la3, ma3, rfl, rfl, rfl, rfl⟩ := hA.form
          have hX' := hX
          replace hW := hW.trans hX'
          replace hI := hI.ext hX'
          replace hV := hV.ext hX'
          clear hX'
          go_wp2_with fail
          refine hK _ _ hW ?_
          try simp only [Act.put, List.setIfInBounds_toArray, List.set]
          clear hX
          refine wpAnyG_two (i := 4) (j := 7) (by kernel_rfl) ⟨_, rfl, fun K hK => ?_⟩ ⟨_, rfl, fun K hK => ?_⟩
          · skip
            go_wp2_with fail
            refine hK _ _ hW ?_
            try simp only [Act.put, List.setIfInBounds_toArray, List.set]
            refine wpAnyG_three (i := 5) (j := 6) (k := 7) (by kernel_rfl) ⟨_, rfl, fun K hK => ?_⟩ ⟨_, rfl, fun K hK => ?_⟩ ⟨_, rfl, fun K hK => ?_⟩
            · skip
              go_wp2_with fail
              refine hK _ _ hW ?_
              try simp only [Act.put, List.setIfInBounds_toArray, List.set]
              refine wpAnyG_two (i := 6) (j := 7) (by kernel_rfl) ⟨_, rfl, fun K hK => ?_⟩ ⟨_, rfl, fun K hK => ?_⟩
              · skip
                go_wp2_with fail
                refine hK _ _ hW ?_
                try simp only [Act.put, List.setIfInBounds_toArray, List.set]
                refine wpAnyG_one (i := 7) (by kernel_rfl) ⟨_, rfl, fun K hK => ?_⟩
                go_wp2_with fail
                refine hK _ _ (hW.trans ((Ext.refl _).alloc (.cells #[.int .i64 0, .slice none 0 0, .slice none 0 0, .slice none 0 0] 26))) ?_
                try simp only [Act.put, List.setIfInBounds_toArray, List.set]
                have hB := box_new wv3 (.int .i64 0) (.slice none 0 0) (.slice none 0 0) (.slice none 0 0)
                have hbl := hW.lt
                replace hA := hA.mono' (G := fun x => x ≠ wv3.heap.size) (fun x _ hx => by omega)
                have hX' := (Ext.refl wv3).alloc (.cells #[.int .i64 0, .slice none 0 0, .slice none 0 0, .slice none 0 0] 26)
                replace hW := hW.trans hX'
                replace hI := hI.ext hX'
                replace hV := hV.ext hX'
                replace hA := hA.ext hX'
                generalize wv3.heap.size = bb at *
                generalize wv3.alloc (.cells #[.int .i64 0, .slice none 0 0, .slice none 0 0, .slice none 0 0] 26) = wv4 at *
                clear hX'
                refine wpAnyG_one (i := 8) (by kernel_rfl) ⟨_, rfl, fun K hK => ?_⟩
                obtain ⟨x0, x1, x2, x3⟩ := hB.cell
                have y0 := hB.free 0
                have y1 := hB.free 1
                have y2 := hB.free 2
                have y3 := hB.free 3
                go_wp2_with fail
                obtain ⟨g1, g2, g3⟩ := hB.put4 hW hbl (.int .i64 ka) (.slice pa1 la1 ma1) (.slice pa2 la2 ma2) (.slice pa3 la3 ma3)
                refine hK _ _ g1 ?_
                try simp only [Act.put, List.setIfInBounds_toArray, List.set]
                have hA2 := ArrAt.mono (G := fun x => x ≠ bb) (w' := ((((wv4.setCell ⟨bb, 0, none⟩ (.int .i64 ka)).setCell ⟨bb, 1, none⟩ (.slice pa1 la1 ma1)).setCell ⟨bb, 2, none⟩ (.slice pa2 la2 ma2)).setCell ⟨bb, 3, none⟩ (.slice pa3 la3 ma3))) (fun x hx _ => ⟨hx, g3 x hx⟩) _ _ _ _ _ hA
                clear x0 x1 x2 x3 y0 y1 y2 y3 g3 hA hB hI hV
                revert g1 g2 hA2
                generalize ((((wv4.setCell ⟨bb, 0, none⟩ (.int .i64 ka)).setCell ⟨bb, 1, none⟩ (.slice pa1 la1 ma1)).setCell ⟨bb, 2, none⟩ (.slice pa2 la2 ma2)).setCell ⟨bb, 3, none⟩ (.slice pa3 la3 ma3)) = wv5
                intro hW' hB hA
                replace hW := hW'
                clear hW'
                refine wpAnyG_one (i := 9) (by kernel_rfl) ⟨_, rfl, fun K hK => ?_⟩
                go_wp2_with fail
                refine hK _ _ hW ?_
                try simp only [Act.put, List.setIfInBounds_toArray, List.set]
                refine wpAnyG_done (by kernel_rfl) ?_ _
                refine OnlyN.mk ?_
                go_wp2_with fail
                go_meet
                case rel => exact ⟨bb, _, _, _, _, rfl, rfl, hB, hA.mono' (fun _ _ _ => trivial), hW⟩
              · skip
                go_wp2_with fail
                refine hK _ _ (hW.trans ((Ext.refl _).alloc (.cells #[.int .i64 0, .slice none 0 0, .slice none 0 0, .slice none 0 0] 26))) ?_
                try simp only [Act.put, List.setIfInBounds_toArray, List.set]
                have hB := box_new wv3 (.int .i64 0) (.slice none 0 0) (.slice none 0 0) (.slice none 0 0)
                have hbl := hW.lt
                replace hA := hA.mono' (G := fun x => x ≠ wv3.heap.size) (fun x _ hx => by omega)
                have hX' := (Ext.refl wv3).alloc (.cells #[.int .i64 0, .slice none 0 0, .slice none 0 0, .slice none 0 0] 26)
                replace hW := hW.trans hX'
                replace hI := hI.ext hX'
                replace hV := hV.ext hX'
                replace hA := hA.ext hX'
                generalize wv3.heap.size = bb at *
                generalize wv3.alloc (.cells #[.int .i64 0, .slice none 0 0, .slice none 0 0, .slice none 0 0] 26) = wv6 at *
                clear hX'
                refine wpAnyG_two (i := 6) (j := 8) (by kernel_rfl) ⟨_, rfl, fun K hK => ?_⟩ ⟨_, rfl, fun K hK => ?_⟩
                · skip
                  go_wp2_with fail
                  refine hK _ _ hW ?_
                  try simp only [Act.put, List.setIfInBounds_toArray, List.set]
                  refine wpAnyG_one (i := 8) (by kernel_rfl) ⟨_, rfl, fun K hK => ?_⟩
                  obtain ⟨x0, x1, x2, x3⟩ := hB.cell
                  have y0 := hB.free 0
                  have y1 := hB.free 1
                  have y2 := hB.free 2
                  have y3 := hB.free 3
                  go_wp2_with fail
                  obtain ⟨g1, g2, g3⟩ := hB.put4 hW hbl (.int .i64 ka) (.slice pa1 la1 ma1) (.slice pa2 la2 ma2) (.slice pa3 la3 ma3)
                  refine hK _ _ g1 ?_
                  try simp only [Act.put, List.setIfInBounds_toArray, List.set]
                  have hA2 := ArrAt.mono (G := fun x => x ≠ bb) (w' := ((((wv6.setCell ⟨bb, 0, none⟩ (.int .i64 ka)).setCell ⟨bb, 1, none⟩ (.slice pa1 la1 ma1)).setCell ⟨bb, 2, none⟩ (.slice pa2 la2 ma2)).setCell ⟨bb, 3, none⟩ (.slice pa3 la3 ma3))) (fun x hx _ => ⟨hx, g3 x hx⟩) _ _ _ _ _ hA
                  clear x0 x1 x2 x3 y0 y1 y2 y3 g3 hA hB hI hV
                  revert g1 g2 hA2
                  generalize ((((wv6.setCell ⟨bb, 0, none⟩ (.int .i64 ka)).setCell ⟨bb, 1, none⟩ (.slice pa1 la1 ma1)).setCell ⟨bb, 2, none⟩ (.slice pa2 la2 ma2)).setCell ⟨bb, 3, none⟩ (.slice pa3 la3 ma3)) = wv7
                  intro hW' hB hA
                  replace hW := hW'
                  clear hW'
                  refine wpAnyG_one (i := 9) (by kernel_rfl) ⟨_, rfl, fun K hK => ?_⟩
                  go_wp2_with fail
                  refine hK _ _ hW ?_
                  try simp only [Act.put, List.setIfInBounds_toArray, List.set]
                  refine wpAnyG_done (by kernel_rfl) ?_ _
                  refine OnlyN.mk ?_
                  go_wp2_with fail
                  go_meet
                  case rel => exact ⟨bb, _, _, _, _, rfl, rfl, hB, hA.mono' (fun _ _ _ => trivial), hW⟩
                · skip
                  obtain ⟨x0, x1, x2, x3⟩ := hB.cell
                  have y0 := hB.free 0
                  have y1 := hB.free 1
                  have y2 := hB.free 2
                  have y3 := hB.free 3
                  go_wp2_with fail
                  obtain ⟨g1, g2, g3⟩ := hB.put4 hW hbl (.int .i64 ka) (.slice pa1 la1 ma1) (.slice pa2 la2 ma2) (.slice pa3 la3 ma3)
                  refine hK _ _ g1 ?_
                  try simp only [Act.put, List.setIfInBounds_toArray, List.set]
                  have hA2 := ArrAt.mono (G := fun x => x ≠ bb) (w' := ((((wv6.setCell ⟨bb, 0, none⟩ (.int .i64 ka)).setCell ⟨bb, 1, none⟩ (.slice pa1 la1 ma1)).setCell ⟨bb, 2, none⟩ (.slice pa2 la2 ma2)).setCell ⟨bb, 3, none⟩ (.slice pa3 la3 ma3))) (fun x hx _ => ⟨hx, g3 x hx⟩) _ _ _ _ _ hA
                  clear x0 x1 x2 x3 y0 y1 y2 y3 g3 hA hB hI hV
                  revert g1 g2 hA2
                  generalize ((((wv6.setCell ⟨bb, 0, none⟩ (.int .i64 ka)).setCell ⟨bb, 1, none⟩ (.slice pa1 la1 ma1)).setCell ⟨bb, 2, none⟩ (.slice pa2 la2 ma2)).setCell ⟨bb, 3, none⟩ (.slice pa3 la3 ma3)) = wv8
                  intro hW' hB hA
                  replace hW := hW'
                  clear hW'
                  refine wpAnyG_one (i := 6) (by kernel_rfl) ⟨_, rfl, fun K hK => ?_⟩
                  go_wp2_with fail
                  refine hK _ _ hW ?_
                  try simp only [Act.put, List.setIfInBounds_toArray, List.set]
                  refine wpAnyG_one (i := 9) (by kernel_rfl) ⟨_, rfl, fun K hK => ?_⟩
                  go_wp2_with fail
                  refine hK _ _ hW ?_
                  try simp only [Act.put, List.setIfInBounds_toArray, List.set]
                  refine wpAnyG_done (by kernel_rfl) ?_ _
                  refine OnlyN.mk ?_
                  go_wp2_with fail
                  go_meet
                  case rel => exact ⟨bb, _, _, _, _, rfl, rfl, hB, hA.mono' (fun _ _ _ => trivial), hW⟩
            · skip
              go_wp2_with fail
              refine hK _ _ hW ?_
              try simp only [Act.put, List.setIfInBounds_toArray, List.set]
              refine wpAnyG_two (i := 5) (j := 7) (by kernel_rfl) ⟨_, rfl, fun K hK => ?_⟩ ⟨_, rfl, fun K hK => ?_⟩
              · skip
                go_wp2_with fail
                refine hK _ _ hW ?_
                try simp only [Act.put, List.setIfInBounds_toArray, List.set]
                refine wpAnyG_one (i := 7) (by kernel_rfl) ⟨_, rfl, fun K hK => ?_⟩
                go_wp2_with fail
                refine hK _ _ (hW.trans ((Ext.refl _).alloc (.cells #[.int .i64 0, .slice none 0 0, .slice none 0 0, .slice none 0 0] 26))) ?_
                try simp only [Act.put, List.setIfInBounds_toArray, List.set]
                have hB := box_new wv3 (.int .i64 0) (.slice none 0 0) (.slice none 0 0) (.slice none 0 0)
                have hbl := hW.lt
                replace hA := hA.mono' (G := fun x => x ≠ wv3.heap.size) (fun x _ hx => by omega)
                have hX' := (Ext.refl wv3).alloc (.cells #[.int .i64 0, .slice none 0 0, .slice none 0 0, .slice none 0 0] 26)
                replace hW := hW.trans hX'
                replace hI := hI.ext hX'
                replace hV := hV.ext hX'
                replace hA := hA.ext hX'
                generalize wv3.heap.size = bb at *
                generalize wv3.alloc (.cells #[.int .i64 0, .slice none 0 0, .slice none 0 0, .slice none 0 0] 26) = wv9 at *
                clear hX'
                refine wpAnyG_one (i := 8) (by kernel_rfl) ⟨_, rfl, fun K hK => ?_⟩
                obtain ⟨x0, x1, x2, x3⟩ := hB.cell
                have y0 := hB.free 0
                have y1 := hB.free 1
                have y2 := hB.free 2
                have y3 := hB.free 3
                go_wp2_with fail
                obtain ⟨g1, g2, g3⟩ := hB.put4 hW hbl (.int .i64 ka) (.slice pa1 la1 ma1) (.slice pa2 la2 ma2) (.slice pa3 la3 ma3)
                refine hK _ _ g1 ?_
                try simp only [Act.put, List.setIfInBounds_toArray, List.set]
                have hA2 := ArrAt.mono (G := fun x => x ≠ bb) (w' := ((((wv9.setCell ⟨bb, 0, none⟩ (.int .i64 ka)).setCell ⟨bb, 1, none⟩ (.slice pa1 la1 ma1)).setCell ⟨bb, 2, none⟩ (.slice pa2 la2 ma2)).setCell ⟨bb, 3, none⟩ (.slice pa3 la3 ma3))) (fun x hx _ => ⟨hx, g3 x hx⟩) _ _ _ _ _ hA
                clear x0 x1 x2 x3 y0 y1 y2 y3 g3 hA hB hI hV
                revert g1 g2 hA2
                generalize ((((wv9.setCell ⟨bb, 0, none⟩ (.int .i64 ka)).setCell ⟨bb, 1, none⟩ (.slice pa1 la1 ma1)).setCell ⟨bb, 2, none⟩ (.slice pa2 la2 ma2)).setCell ⟨bb, 3, none⟩ (.slice pa3 la3 ma3)) = wv10
                intro hW' hB hA
                replace hW := hW'
                clear hW'
                refine wpAnyG_one (i := 9) (by kernel_rfl) ⟨_, rfl, fun K hK => ?_⟩
                go_wp2_with fail
                refine hK _ _ hW ?_
                try simp only [Act.put, List.setIfInBounds_toArray, List.set]
                refine wpAnyG_done (by kernel_rfl) ?_ _
                refine OnlyN.mk ?_
                go_wp2_with fail
                go_meet
                case rel => exact ⟨bb, _, _, _, _, rfl, rfl, hB, hA.mono' (fun _ _ _ => trivial), hW⟩
              · skip
                go_wp2_with fail
                refine hK _ _ (hW.trans ((Ext.refl _).alloc (.cells #[.int .i64 0, .slice none 0 0, .slice none 0 0, .slice none 0 0] 26))) ?_
                try simp only [Act.put, List.setIfInBounds_toArray, List.set]
                have hB := box_new wv3 (.int .i64 0) (.slice none 0 0) (.slice none 0 0) (.slice none 0 0)
                have hbl := hW.lt
                replace hA := hA.mono' (G := fun x => x ≠ wv3.heap.size) (fun x _ hx => by omega)
                have hX' := (Ext.refl wv3).alloc (.cells #[.int .i64 0, .slice none 0 0, .slice none 0 0, .slice none 0 0] 26)
                replace hW := hW.trans hX'
                replace hI := hI.ext hX'
                replace hV := hV.ext hX'
                replace hA := hA.ext hX'
                generalize wv3.heap.size = bb at *
                generalize wv3.alloc (.cells #[.int .i64 0, .slice none 0 0, .slice none 0 0, .slice none 0 0] 26) = wv11 at *
                clear hX'
                refine wpAnyG_one (i := 5) (by kernel_rfl) ⟨_, rfl, fun K hK => ?_⟩
                go_wp2_with fail
                refine hK _ _ hW ?_
                try simp only [Act.put, List.setIfInBounds_toArray, List.set]
                refine wpAnyG_one (i := 8) (by kernel_rfl) ⟨_, rfl, fun K hK => ?_⟩
                obtain ⟨x0, x1, x2, x3⟩ := hB.cell
                have y0 := hB.free 0
                have y1 := hB.free 1
                have y2 := hB.free 2
                have y3 := hB.free 3
                go_wp2_with fail
                obtain ⟨g1, g2, g3⟩ := hB.put4 hW hbl (.int .i64 ka) (.slice pa1 la1 ma1) (.slice pa2 la2 ma2) (.slice pa3 la3 ma3)
                refine hK _ _ g1 ?_
                try simp only [Act.put, List.setIfInBounds_toArray, List.set]
                have hA2 := ArrAt.mono (G := fun x => x ≠ bb) (w' := ((((wv11.setCell ⟨bb, 0, none⟩ (.int .i64 ka)).setCell ⟨bb, 1, none⟩ (.slice pa1 la1 ma1)).setCell ⟨bb, 2, none⟩ (.slice pa2 la2 ma2)).setCell ⟨bb, 3, none⟩ (.slice pa3 la3 ma3))) (fun x hx _ => ⟨hx, g3 x hx⟩) _ _ _ _ _ hA
                clear x0 x1 x2 x3 y0 y1 y2 y3 g3 hA hB hI hV
                revert g1 g2 hA2
                generalize ((((wv11.setCell ⟨bb, 0, none⟩ (.int .i64 ka)).setCell ⟨bb, 1, none⟩ (.slice pa1 la1 ma1)).setCell ⟨bb, 2, none⟩ (.slice pa2 la2 ma2)).setCell ⟨bb, 3, none⟩ (.slice pa3 la3 ma3)) = wv12
                intro hW' hB hA
                replace hW := hW'
                clear hW'
                refine wpAnyG_one (i := 9) (by kernel_rfl) ⟨_, rfl, fun K hK => ?_⟩
                go_wp2_with fail
                refine hK _ _ hW ?_
                try simp only [Act.put, List.setIfInBounds_toArray, List.set]
                refine wpAnyG_done (by kernel_rfl) ?_ _
                refine OnlyN.mk ?_
                go_wp2_with fail
                go_meet
                case rel => exact ⟨bb, _, _, _, _, rfl, rfl, hB, hA.mono' (fun _ _ _ => trivial), hW⟩
            · skip
              go_wp2_with fail
              refine hK _ _ (hW.trans ((Ext.refl _).alloc (.cells #[.int .i64 0, .slice none 0 0, .slice none 0 0, .slice none 0 0] 26))) ?_
              try simp only [Act.put, List.setIfInBounds_toArray, List.set]
              have hB := box_new wv3 (.int .i64 0) (.slice none 0 0) (.slice none 0 0) (.slice none 0 0)
              have hbl := hW.lt
              replace hA := hA.mono' (G := fun x => x ≠ wv3.heap.size) (fun x _ hx => by omega)
              have hX' := (Ext.refl wv3).alloc (.cells #[.int .i64 0, .slice none 0 0, .slice none 0 0, .slice none 0 0] 26)
              replace hW := hW.trans hX'
              replace hI := hI.ext hX'
              replace hV := hV.ext hX'
              replace hA := hA.ext hX'
              generalize wv3.heap.size = bb at *
              generalize wv3.alloc (.cells #[.int .i64 0, .slice none 0 0, .slice none 0 0, .slice none 0 0] 26) = wv13 at *
              clear hX'
              refine wpAnyG_two (i := 5) (j := 6) (by kernel_rfl) ⟨_, rfl, fun K hK => ?_⟩ ⟨_, rfl, fun K hK => ?_⟩
              · skip
                go_wp2_with fail
                refine hK _ _ hW ?_
                try simp only [Act.put, List.setIfInBounds_toArray, List.set]
                refine wpAnyG_two (i := 6) (j := 8) (by kernel_rfl) ⟨_, rfl, fun K hK => ?_⟩ ⟨_, rfl, fun K hK => ?_⟩
                · skip
                  go_wp2_with fail
                  refine hK _ _ hW ?_
                  try simp only [Act.put, List.setIfInBounds_toArray, List.set]
                  refine wpAnyG_one (i := 8) (by kernel_rfl) ⟨_, rfl, fun K hK => ?_⟩
                  obtain ⟨x0, x1, x2, x3⟩ := hB.cell
                  have y0 := hB.free 0
                  have y1 := hB.free 1
                  have y2 := hB.free 2
                  have y3 := hB.free 3
                  go_wp2_with fail
                  obtain ⟨g1, g2, g3⟩ := hB.put4 hW hbl (.int .i64 ka) (.slice pa1 la1 ma1) (.slice pa2 la2 ma2) (.slice pa3 la3 ma3)
                  refine hK _ _ g1 ?_
                  try simp only [Act.put, List.setIfInBounds_toArray, List.set]
                  have hA2 := ArrAt.mono (G := fun x => x ≠ bb) (w' := ((((wv13.setCell ⟨bb, 0, none⟩ (.int .i64 ka)).setCell ⟨bb, 1, none⟩ (.slice pa1 la1 ma1)).setCell ⟨bb, 2, none⟩ (.slice pa2 la2 ma2)).setCell ⟨bb, 3, none⟩ (.slice pa3 la3 ma3))) (fun x hx _ => ⟨hx, g3 x hx⟩) _ _ _ _ _ hA
                  clear x0 x1 x2 x3 y0 y1 y2 y3 g3 hA hB hI hV
                  revert g1 g2 hA2
                  generalize ((((wv13.setCell ⟨bb, 0, none⟩ (.int .i64 ka)).setCell ⟨bb, 1, none⟩ (.slice pa1 la1 ma1)).setCell ⟨bb, 2, none⟩ (.slice pa2 la2 ma2)).setCell ⟨bb, 3, none⟩ (.slice pa3 la3 ma3)) = wv14
                  intro hW' hB hA
                  replace hW := hW'
                  clear hW'
                  refine wpAnyG_one (i := 9) (by kernel_rfl) ⟨_, rfl, fun K hK => ?_⟩
                  go_wp2_with fail
                  refine hK _ _ hW ?_
                  try simp only [Act.put, List.setIfInBounds_toArray, List.set]
                  refine wpAnyG_done (by kernel_rfl) ?_ _
                  refine OnlyN.mk ?_
                  go_wp2_with fail
                  go_meet
                  case rel => exact ⟨bb, _, _, _, _, rfl, rfl, hB, hA.mono' (fun _ _ _ => trivial), hW⟩
                · skip
                  obtain ⟨x0, x1, x2, x3⟩ := hB.cell
                  have y0 := hB.free 0
                  have y1 := hB.free 1
                  have y2 := hB.free 2
                  have y3 := hB.free 3
                  go_wp2_with fail
                  obtain ⟨g1, g2, g3⟩ := hB.put4 hW hbl (.int .i64 ka) (.slice pa1 la1 ma1) (.slice pa2 la2 ma2) (.slice pa3 la3 ma3)
                  refine hK _ _ g1 ?_
                  try simp only [Act.put, List.setIfInBounds_toArray, List.set]
                  have hA2 := ArrAt.mono (G := fun x => x ≠ bb) (w' := ((((wv13.setCell ⟨bb, 0, none⟩ (.int .i64 ka)).setCell ⟨bb, 1, none⟩ (.slice pa1 la1 ma1)).setCell ⟨bb, 2, none⟩ (.slice pa2 la2 ma2)).setCell ⟨bb, 3, none⟩ (.slice pa3 la3 ma3))) (fun x hx _ => ⟨hx, g3 x hx⟩) _ _ _ _ _ hA
                  clear x0 x1 x2 x3 y0 y1 y2 y3 g3 hA hB hI hV
                  revert g1 g2 hA2
                  generalize ((((wv13.setCell ⟨bb, 0, none⟩ (.int .i64 ka)).setCell ⟨bb, 1, none⟩ (.slice pa1 la1 ma1)).setCell ⟨bb, 2, none⟩ (.slice pa2 la2 ma2)).setCell ⟨bb, 3, none⟩ (.slice pa3 la3 ma3)) = wv15
                  intro hW' hB hA
                  replace hW := hW'
                  clear hW'
                  refine wpAnyG_one (i := 6) (by kernel_rfl) ⟨_, rfl, fun K hK => ?_⟩
                  go_wp2_with fail
                  refine hK _ _ hW ?_
                  try simp only [Act.put, List.setIfInBounds_toArray, List.set]
                  refine wpAnyG_one (i := 9) (by kernel_rfl) ⟨_, rfl, fun K hK => ?_⟩
                  go_wp2_with fail
                  refine hK _ _ hW ?_
                  try simp only [Act.put, List.setIfInBounds_toArray, List.set]
                  refine wpAnyG_done (by kernel_rfl) ?_ _
                  refine OnlyN.mk ?_
                  go_wp2_with fail
                  go_meet
                  case rel => exact ⟨bb, _, _, _, _, rfl, rfl, hB, hA.mono' (fun _ _ _ => trivial), hW⟩
              · skip
                go_wp2_with fail
                refine hK _ _ hW ?_
                try simp only [Act.put, List.setIfInBounds_toArray, List.set]
                refine wpAnyG_one (i := 5) (by kernel_rfl) ⟨_, rfl, fun K hK => ?_⟩
                go_wp2_with fail
                refine hK _ _ hW ?_
                try simp only [Act.put, List.setIfInBounds_toArray, List.set]
                refine wpAnyG_one (i := 8) (by kernel_rfl) ⟨_, rfl, fun K hK => ?_⟩
                obtain ⟨x0, x1, x2, x3⟩ := hB.cell
                have y0 := hB.free 0
                have y1 := hB.free 1
                have y2 := hB.free 2
                have y3 := hB.free 3
                go_wp2_with fail
                obtain ⟨g1, g2, g3⟩ := hB.put4 hW hbl (.int .i64 ka) (.slice pa1 la1 ma1) (.slice pa2 la2 ma2) (.slice pa3 la3 ma3)
                refine hK _ _ g1 ?_
                try simp only [Act.put, List.setIfInBounds_toArray, List.set]
                have hA2 := ArrAt.mono (G := fun x => x ≠ bb) (w' := ((((wv13.setCell ⟨bb, 0, none⟩ (.int .i64 ka)).setCell ⟨bb, 1, none⟩ (.slice pa1 la1 ma1)).setCell ⟨bb, 2, none⟩ (.slice pa2 la2 ma2)).setCell ⟨bb, 3, none⟩ (.slice pa3 la3 ma3))) (fun x hx _ => ⟨hx, g3 x hx⟩) _ _ _ _ _ hA
                clear x0 x1 x2 x3 y0 y1 y2 y3 g3 hA hB hI hV
                revert g1 g2 hA2
                generalize ((((wv13.setCell ⟨bb, 0, none⟩ (.int .i64 ka)).setCell ⟨bb, 1, none⟩ (.slice pa1 la1 ma1)).setCell ⟨bb, 2, none⟩ (.slice pa2 la2 ma2)).setCell ⟨bb, 3, none⟩ (.slice pa3 la3 ma3)) = wv16
                intro hW' hB hA
                replace hW := hW'
                clear hW'
                refine wpAnyG_one (i := 9) (by kernel_rfl) ⟨_, rfl, fun K hK => ?_⟩
                go_wp2_with fail
                refine hK _ _ hW ?_
                try simp only [Act.put, List.setIfInBounds_toArray, List.set]
                refine wpAnyG_done (by kernel_rfl) ?_ _
                refine OnlyN.mk ?_
                go_wp2_with fail
                go_meet
                case rel => exact ⟨bb, _, _, _, _, rfl, rfl, hB, hA.mono' (fun _ _ _ => trivial), hW⟩
          · skip
            go_wp2_with fail
            refine hK _ _ (hW.trans ((Ext.refl _).alloc (.cells #[.int .i64 0, .slice none 0 0, .slice none 0 0, .slice none 0 0] 26))) ?_
            try simp only [Act.put, List.setIfInBounds_toArray, List.set]
            have hB := box_new wv3 (.int .i64 0) (.slice none 0 0) (.slice none 0 0) (.slice none 0 0)
            have hbl := hW.lt
            replace hA := hA.mono' (G := fun x => x ≠ wv3.heap.size) (fun x _ hx => by omega)
            have hX' := (Ext.refl wv3).alloc (.cells #[.int .i64 0, .slice none 0 0, .slice none 0 0, .slice none 0 0] 26)
            replace hW := hW.trans hX'
            replace hI := hI.ext hX'
            replace hV := hV.ext hX'
            replace hA := hA.ext hX'
            generalize wv3.heap.size = bb at *
            generalize wv3.alloc (.cells #[.int .i64 0, .slice none 0 0, .slice none 0 0, .slice none 0 0] 26) = wv17 at *
            clear hX'
            refine wpAnyG_one (i := 4) (by kernel_rfl) ⟨_, rfl, fun K hK => ?_⟩
            go_wp2_with fail
            refine hK _ _ hW ?_
            try simp only [Act.put, List.setIfInBounds_toArray, List.set]
            refine wpAnyG_two (i := 5) (j := 6) (by kernel_rfl) ⟨_, rfl, fun K hK => ?_⟩ ⟨_, rfl, fun K hK => ?_⟩
            · skip
              go_wp2_with fail
              refine hK _ _ hW ?_
              try simp only [Act.put, List.setIfInBounds_toArray, List.set]
              refine wpAnyG_two (i := 6) (j := 8) (by kernel_rfl) ⟨_, rfl, fun K hK => ?_⟩ ⟨_, rfl, fun K hK => ?_⟩
              · skip
                go_wp2_with fail
                refine hK _ _ hW ?_
                try simp only [Act.put, List.setIfInBounds_toArray, List.set]
                refine wpAnyG_one (i := 8) (by kernel_rfl) ⟨_, rfl, fun K hK => ?_⟩
                obtain ⟨x0, x1, x2, x3⟩ := hB.cell
                have y0 := hB.free 0
                have y1 := hB.free 1
                have y2 := hB.free 2
                have y3 := hB.free 3
                go_wp2_with fail
                obtain ⟨g1, g2, g3⟩ := hB.put4 hW hbl (.int .i64 ka) (.slice pa1 la1 ma1) (.slice pa2 la2 ma2) (.slice pa3 la3 ma3)
                refine hK _ _ g1 ?_
                try simp only [Act.put, List.setIfInBounds_toArray, List.set]
                have hA2 := ArrAt.mono (G := fun x => x ≠ bb) (w' := ((((wv17.setCell ⟨bb, 0, none⟩ (.int .i64 ka)).setCell ⟨bb, 1, none⟩ (.slice pa1 la1 ma1)).setCell ⟨bb, 2, none⟩ (.slice pa2 la2 ma2)).setCell ⟨bb, 3, none⟩ (.slice pa3 la3 ma3))) (fun x hx _ => ⟨hx, g3 x hx⟩) _ _ _ _ _ hA
                clear x0 x1 x2 x3 y0 y1 y2 y3 g3 hA hB hI hV
                revert g1 g2 hA2
                generalize ((((wv17.setCell ⟨bb, 0, none⟩ (.int .i64 ka)).setCell ⟨bb, 1, none⟩ (.slice pa1 la1 ma1)).setCell ⟨bb, 2, none⟩ (.slice pa2 la2 ma2)).setCell ⟨bb, 3, none⟩ (.slice pa3 la3 ma3)) = wv18
                intro hW' hB hA
                replace hW := hW'
                clear hW'
                refine wpAnyG_one (i := 9) (by kernel_rfl) ⟨_, rfl, fun K hK => ?_⟩
                go_wp2_with fail
                refine hK _ _ hW ?_
                try simp only [Act.put, List.setIfInBounds_toArray, List.set]
                refine wpAnyG_done (by kernel_rfl) ?_ _
                refine OnlyN.mk ?_
                go_wp2_with fail
                go_meet
                case rel => exact ⟨bb, _, _, _, _, rfl, rfl, hB, hA.mono' (fun _ _ _ => trivial), hW⟩
              · skip
                obtain ⟨x0, x1, x2, x3⟩ := hB.cell
                have y0 := hB.free 0
                have y1 := hB.free 1
                have y2 := hB.free 2
                have y3 := hB.free 3
                go_wp2_with fail
                obtain ⟨g1, g2, g3⟩ := hB.put4 hW hbl (.int .i64 ka) (.slice pa1 la1 ma1) (.slice pa2 la2 ma2) (.slice pa3 la3 ma3)
                refine hK _ _ g1 ?_
                try simp only [Act.put, List.setIfInBounds_toArray, List.set]
                have hA2 := ArrAt.mono (G := fun x => x ≠ bb) (w' := ((((wv17.setCell ⟨bb, 0, none⟩ (.int .i64 ka)).setCell ⟨bb, 1, none⟩ (.slice pa1 la1 ma1)).setCell ⟨bb, 2, none⟩ (.slice pa2 la2 ma2)).setCell ⟨bb, 3, none⟩ (.slice pa3 la3 ma3))) (fun x hx _ => ⟨hx, g3 x hx⟩) _ _ _ _ _ hA
                clear x0 x1 x2 x3 y0 y1 y2 y3 g3 hA hB hI hV
                revert g1 g2 hA2
                generalize ((((wv17.setCell ⟨bb, 0, none⟩ (.int .i64 ka)).setCell ⟨bb, 1, none⟩ (.slice pa1 la1 ma1)).setCell ⟨bb, 2, none⟩ (.slice pa2 la2 ma2)).setCell ⟨bb, 3, none⟩ (.slice pa3 la3 ma3)) = wv19
                intro hW' hB hA
                replace hW := hW'
                clear hW'
                refine wpAnyG_one (i := 6) (by kernel_rfl) ⟨_, rfl, fun K hK => ?_⟩
                go_wp2_with fail
                refine hK _ _ hW ?_
                try simp only [Act.put, List.setIfInBounds_toArray, List.set]
                refine wpAnyG_one (i := 9) (by kernel_rfl) ⟨_, rfl, fun K hK => ?_⟩
                go_wp2_with fail
                refine hK _ _ hW ?_
                try simp only [Act.put, List.setIfInBounds_toArray, List.set]
                refine wpAnyG_done (by kernel_rfl) ?_ _
                refine OnlyN.mk ?_
                go_wp2_with fail
                go_meet
                case rel => exact ⟨bb, _, _, _, _, rfl, rfl, hB, hA.mono' (fun _ _ _ => trivial), hW⟩
            · skip
              go_wp2_with fail
              refine hK _ _ hW ?_
              try simp only [Act.put, List.setIfInBounds_toArray, List.set]
              refine wpAnyG_one (i := 5) (by kernel_rfl) ⟨_, rfl, fun K hK => ?_⟩
              go_wp2_with fail
              refine hK _ _ hW ?_
              try simp only [Act.put, List.setIfInBounds_toArray, List.set]
              refine wpAnyG_one (i := 8) (by kernel_rfl) ⟨_, rfl, fun K hK => ?_⟩
              obtain ⟨x0, x1, x2, x3⟩ := hB.cell
              have y0 := hB.free 0
              have y1 := hB.free 1
              have y2 := hB.free 2
              have y3 := hB.free 3
              go_wp2_with fail
              obtain ⟨g1, g2, g3⟩ := hB.put4 hW hbl (.int .i64 ka) (.slice pa1 la1 ma1) (.slice pa2 la2 ma2) (.slice pa3 la3 ma3)
              refine hK _ _ g1 ?_
              try simp only [Act.put, List.setIfInBounds_toArray, List.set]
              have hA2 := ArrAt.mono (G := fun x => x ≠ bb) (w' := ((((wv17.setCell ⟨bb, 0, none⟩ (.int .i64 ka)).setCell ⟨bb, 1, none⟩ (.slice pa1 la1 ma1)).setCell ⟨bb, 2, none⟩ (.slice pa2 la2 ma2)).setCell ⟨bb, 3, none⟩ (.slice pa3 la3 ma3))) (fun x hx _ => ⟨hx, g3 x hx⟩) _ _ _ _ _ hA
              clear x0 x1 x2 x3 y0 y1 y2 y3 g3 hA hB hI hV
              revert g1 g2 hA2
              generalize ((((wv17.setCell ⟨bb, 0, none⟩ (.int .i64 ka)).setCell ⟨bb, 1, none⟩ (.slice pa1 la1 ma1)).setCell ⟨bb, 2, none⟩ (.slice pa2 la2 ma2)).setCell ⟨bb, 3, none⟩ (.slice pa3 la3 ma3)) = wv20
              intro hW' hB hA
              replace hW := hW'
              clear hW'
              refine wpAnyG_one (i := 9) (by kernel_rfl) ⟨_, rfl, fun K hK => ?_⟩
              go_wp2_with fail
              refine hK _ _ hW ?_
              try simp only [Act.put, List.setIfInBounds_toArray, List.set]
              refine wpAnyG_done (by kernel_rfl) ?_ _
              refine OnlyN.mk ?_
              go_wp2_with fail
              go_meet
              case rel => exact ⟨bb, _, _, _, _, rfl, rfl, hB, hA.mono' (fun _ _ _ => trivial), hW⟩
        · skip
          go_wp2_with fail
          refine hK _ _ (hW.trans ((Ext.refl _).alloc (.cells #[.int .i64 0, .slice none 0 0, .slice none 0 0, .slice none 0 0] 26))) ?_
          try simp only [Act.put, List.setIfInBounds_toArray, List.set]
          have hB := box_new wv2 (.int .i64 0) (.slice none 0 0) (.slice none 0 0) (.slice none 0 0)
          have hbl := hW.lt
          have hX' := (Ext.refl wv2).alloc (.cells #[.int .i64 0, .slice none 0 0, .slice none 0 0, .slice none 0 0] 26)
          replace hW := hW.trans hX'
          replace hI := hI.ext hX'
          replace hV := hV.ext hX'
          generalize wv2.heap.size = bb at *
          generalize wv2.alloc (.cells #[.int .i64 0, .slice none 0 0, .slice none 0 0, .slice none 0 0] 26) = wv21 at *
          clear hX'
          refine wpAnyG_one (i := 3) (by kernel_rfl) ⟨_, rfl, fun K hK => ?_⟩
          go_wp2_with fail
          refine (axesAt _ _ _ _ _ _ _ _ _ _ _ _ _ _ wv21 ex1 hV (HM.out.ext hW)).mono ?_
          rintro e wv22 ⟨a0, a1, a2, a3, rfl, hA, hX⟩
          obtain ⟨ka, pa1, la1, ma1, pa2, la2, ma2, pa3, la3, ma3, rfl, rfl, rfl, rfl⟩ := hA.form
          have hA := hA.mono' (G := fun x => x ≠ bb) (fun x hx _ => by have := hB.lt; omega)
          replace hA := hA
          have hX' := hX
          replace hW := hW.trans hX'
          replace hI := hI.ext hX'
          replace hV := hV.ext hX'
          replace hB := hB.ext hX'
          clear hX'
          go_wp2_with fail
          refine hK _ _ hW ?_
          try simp only [Act.put, List.setIfInBounds_toArray, List.set]
          clear hX
          refine wpAnyG_one (i := 4) (by kernel_rfl) ⟨_, rfl, fun K hK => ?_⟩
          go_wp2_with fail
          refine hK _ _ hW ?_
          try simp only [Act.put, List.setIfInBounds_toArray, List.set]
          refine wpAnyG_two (i := 5) (j := 6) (by kernel_rfl) ⟨_, rfl, fun K hK => ?_⟩ ⟨_, rfl, fun K hK => ?_⟩
          · skip
            go_wp2_with fail
            refine hK _ _ hW ?_
            try simp only [Act.put, List.setIfInBounds_toArray, List.set]
            refine wpAnyG_two (i := 6) (j := 8) (by kernel_rfl) ⟨_, rfl, fun K hK => ?_⟩ ⟨_, rfl, fun K hK => ?_⟩
            · skip
              go_wp2_with fail
              refine hK _ _ hW ?_
              try simp only [Act.put, List.setIfInBounds_toArray, List.set]
              refine wpAnyG_one (i := 8) (by kernel_rfl) ⟨_, rfl, fun K hK => ?_⟩
              obtain ⟨x0, x1, x2, x3⟩ := hB.cell
              have y0 := hB.free 0
              have y1 := hB.free 1
              have y2 := hB.free 2
              have y3 := hB.free 3
              go_wp2_with fail
              obtain ⟨g1, g2, g3⟩ := hB.put4 hW hbl (.int .i64 ka) (.slice pa1 la1 ma1) (.slice pa2 la2 ma2) (.slice pa3 la3 ma3)
              refine hK _ _ g1 ?_
              try simp only [Act.put, List.setIfInBounds_toArray, List.set]
              have hA2 := ArrAt.mono (G := fun x => x ≠ bb) (w' := ((((wv22.setCell ⟨bb, 0, none⟩ (.int .i64 ka)).setCell ⟨bb, 1, none⟩ (.slice pa1 la1 ma1)).setCell ⟨bb, 2, none⟩ (.slice pa2 la2 ma2)).setCell ⟨bb, 3, none⟩ (.slice pa3 la3 ma3))) (fun x hx _ => ⟨hx, g3 x hx⟩) _ _ _ _ _ hA
              clear x0 x1 x2 x3 y0 y1 y2 y3 g3 hA hB hI hV
              revert g1 g2 hA2
              generalize ((((wv22.setCell ⟨bb, 0, none⟩ (.int .i64 ka)).setCell ⟨bb, 1, none⟩ (.slice pa1 la1 ma1)).setCell ⟨bb, 2, none⟩ (.slice pa2 la2 ma2)).setCell ⟨bb, 3, none⟩ (.slice pa3 la3 ma3)) = wv23
              intro hW' hB hA
              replace hW := hW'
              clear hW'
              refine wpAnyG_one (i := 9) (by kernel_rfl) ⟨_, rfl, fun K hK => ?_⟩
              go_wp2_with fail
              refine hK _ _ hW ?_
              try simp only [Act.put, List.setIfInBounds_toArray, List.set]
              refine wpAnyG_done (by kernel_rfl) ?_ _
              refine OnlyN.mk ?_
              go_wp2_with fail
              go_meet
              case rel => exact ⟨bb, _, _, _, _, rfl, rfl, hB, hA.mono' (fun _ _ _ => trivial), hW⟩
            · skip
              obtain ⟨x0, x1, x2, x3⟩ := hB.cell
              have y0 := hB.free 0
              have y1 := hB.free 1
              have y2 := hB.free 2
              have y3 := hB.free 3
              go_wp2_with fail
              obtain ⟨g1, g2, g3⟩ := hB.put4 hW hbl (.int .i64 ka) (.slice pa1 la1 ma1) (.slice pa2 la2 ma2) (.slice pa3 la3 ma3)
              refine hK _ _ g1 ?_
              try simp only [Act.put, List.setIfInBounds_toArray, List.set]
              have hA2 := ArrAt.mono (G := fun x => x ≠ bb) (w' := ((((wv22.setCell ⟨bb, 0, none⟩ (.int .i64 ka)).setCell ⟨bb, 1, none⟩ (.slice pa1 la1 ma1)).setCell ⟨bb, 2, none⟩ (.slice pa2 la2 ma2)).setCell ⟨bb, 3, none⟩ (.slice pa3 la3 ma3))) (fun x hx _ => ⟨hx, g3 x hx⟩) _ _ _ _ _ hA
              clear x0 x1 x2 x3 y0 y1 y2 y3 g3 hA hB hI hV
              revert g1 g2 hA2
              generalize ((((wv22.setCell ⟨bb, 0, none⟩ (.int .i64 ka)).setCell ⟨bb, 1, none⟩ (.slice pa1 la1 ma1)).setCell ⟨bb, 2, none⟩ (.slice pa2 la2 ma2)).setCell ⟨bb, 3, none⟩ (.slice pa3 la3 ma3)) = wv24
              intro hW' hB hA
              replace hW := hW'
              clear hW'
              refine wpAnyG_one (i := 6) (by kernel_rfl) ⟨_, rfl, fun K hK => ?_⟩
              go_wp2_with fail
              refine hK _ _ hW ?_
              try simp only [Act.put, List.setIfInBounds_toArray, List.set]
              refine wpAnyG_one (i := 9) (by kernel_rfl) ⟨_, rfl, fun K hK => ?_⟩
              go_wp2_with fail
              refine hK _ _ hW ?_
              try simp only [Act.put, List.setIfInBounds_toArray, List.set]
              refine wpAnyG_done (by kernel_rfl) ?_ _
              refine OnlyN.mk ?_
              go_wp2_with fail
              go_meet
              case rel => exact ⟨bb, _, _, _, _, rfl, rfl, hB, hA.mono' (fun _ _ _ => trivial), hW⟩
          · skip
            go_wp2_with fail
            refine hK _ _ hW ?_
            try simp only [Act.put, List.setIfInBounds_toArray, List.set]
            refine wpAnyG_one (i := 5) (by kernel_rfl) ⟨_, rfl, fun K hK => ?_⟩
            go_wp2_with fail
            refine hK _ _ hW ?_
            try simp only [Act.put, List.setIfInBounds_toArray, List.set]
            refine wpAnyG_one (i := 8) (by kernel_rfl) ⟨_, rfl, fun K hK => ?_⟩
            obtain ⟨x0, x1, x2, x3⟩ := hB.cell
            have y0 := hB.free 0
            have y1 := hB.free 1
            have y2 := hB.free 2
            have y3 := hB.free 3
            go_wp2_with fail
            obtain ⟨g1, g2, g3⟩ := hB.put4 hW hbl (.int .i64 ka) (.slice pa1 la1 ma1) (.slice pa2 la2 ma2) (.slice pa3 la3 ma3)
            refine hK _ _ g1 ?_
            try simp only [Act.put, List.setIfInBounds_toArray, List.set]
            have hA2 := ArrAt.mono (G := fun x => x ≠ bb) (w' := ((((wv22.setCell ⟨bb, 0, none⟩ (.int .i64 ka)).setCell ⟨bb, 1, none⟩ (.slice pa1 la1 ma1)).setCell ⟨bb, 2, none⟩ (.slice pa2 la2 ma2)).setCell ⟨bb, 3, none⟩ (.slice pa3 la3 ma3))) (fun x hx _ => ⟨hx, g3 x hx⟩) _ _ _ _ _ hA
            clear x0 x1 x2 x3 y0 y1 y2 y3 g3 hA hB hI hV
            revert g1 g2 hA2
            generalize ((((wv22.setCell ⟨bb, 0, none⟩ (.int .i64 ka)).setCell ⟨bb, 1, none⟩ (.slice pa1 la1 ma1)).setCell ⟨bb, 2, none⟩ (.slice pa2 la2 ma2)).setCell ⟨bb, 3, none⟩ (.slice pa3 la3 ma3)) = wv25
            intro hW' hB hA
            replace hW := hW'
            clear hW'
            refine wpAnyG_one (i := 9) (by kernel_rfl) ⟨_, rfl, fun K hK => ?_⟩
            go_wp2_with fail
            refine hK _ _ hW ?_
            try simp only [Act.put, List.setIfInBounds_toArray, List.set]
            refine wpAnyG_done (by kernel_rfl) ?_ _
            refine OnlyN.mk ?_
            go_wp2_with fail
            go_meet
            case rel => exact ⟨bb, _, _, _, _, rfl, rfl, hB, hA.mono' (fun _ _ _ => trivial), hW⟩
      · skip
        go_wp2_with fail
        refine hK _ _ (hW.trans ((Ext.refl _).alloc (.cells #[.int .i64 0, .slice none 0 0, .slice none 0 0, .slice none 0 0] 26))) ?_
        try simp only [Act.put, List.setIfInBounds_toArray, List.set]
        have hB := box_new wv1 (.int .i64 0) (.slice none 0 0) (.slice none 0 0) (.slice none 0 0)
        have hbl := hW.lt
        have hX' := (Ext.refl wv1).alloc (.cells #[.int .i64 0, .slice none 0 0, .slice none 0 0, .slice none 0 0] 26)
        replace hW := hW.trans hX'
        replace hI := hI.ext hX'
        generalize wv1.heap.size = bb at *
        generalize wv1.alloc (.cells #[.int .i64 0, .slice none 0 0, .slice none 0 0, .slice none 0 0] 26) = wv26 at *
        clear hX'
        refine wpAnyG_one (i := 1) (by kernel_rfl) ⟨_, rfl, fun K hK => ?_⟩
        go_wp2_with fail
        refine (vec_any _ _ 2 [0, 0] wv26 hI ⟨by decide, by decide, by decide⟩).mono ?_
        rintro e wv27 ⟨v0, v1, v2, v3, rfl, hV, hX⟩
        have hX' := hX
        replace hW := hW.trans hX'
        replace hI := hI.ext hX'
        replace hB := hB.ext hX'
        clear hX'
        go_wp2_with fail
        refine hK _ _ hW ?_
        try simp only [Act.put, List.setIfInBounds_toArray, List.set]
        clear hX
        refine wpAnyG_one (i := 3) (by kernel_rfl) ⟨_, rfl, fun K hK => ?_⟩
        go_wp2_with fail
        refine (axesAt _ _ _ _ _ _ _ _ _ _ _ _ _ _ wv27 ex1 hV (HM.out.ext hW)).mono ?_
        rintro e wv28 ⟨a0, a1, a2, a3, rfl, hA, hX⟩
        obtain ⟨ka, pa1, la1, ma1, pa2, la2, ma2, pa3, la3, ma3, rfl, rfl, rfl, rfl⟩ := hA.form
        have hA := hA.mono' (G := fun x => x ≠ bb) (fun x hx _ => by have := hB.lt; omega)
        replace hA := hA
        have hX' := hX
        replace hW := hW.trans hX'
        replace hI := hI.ext hX'
        replace hB := hB.ext hX'
        replace hV := hV.ext hX'
        clear hX'
        go_wp2_with fail
        refine hK _ _ hW ?_
        try simp only [Act.put, List.setIfInBounds_toArray, List.set]
        clear hX
        refine wpAnyG_one (i := 4) (by kernel_rfl) ⟨_, rfl, fun K hK => ?_⟩
        go_wp2_with fail
        refine hK _ _ hW ?_
        try simp only [Act.put, List.setIfInBounds_toArray, List.set]
        refine wpAnyG_two (i := 5) (j := 6) (by kernel_rfl) ⟨_, rfl, fun K hK => ?_⟩ ⟨_, rfl, fun K hK => ?_⟩
        · skip
          go_wp2_with fail
          refine hK _ _ hW ?_
          try simp only [Act.put, List.setIfInBounds_toArray, List.set]
          refine wpAnyG_two (i := 6) (j := 8) (by kernel_rfl) ⟨_, rfl, fun K hK => ?_⟩ ⟨_, rfl, fun K hK => ?_⟩
          · skip
            go_wp2_with fail
            refine hK _ _ hW ?_
            try simp only [Act.put, List.setIfInBounds_toArray, List.set]
            refine wpAnyG_one (i := 8) (by kernel_rfl) ⟨_, rfl, fun K hK => ?_⟩
            obtain ⟨x0, x1, x2, x3⟩ := hB.cell
            have y0 := hB.free 0
            have y1 := hB.free 1
            have y2 := hB.free 2
            have y3 := hB.free 3
            go_wp2_with fail
            obtain ⟨g1, g2, g3⟩ := hB.put4 hW hbl (.int .i64 ka) (.slice pa1 la1 ma1) (.slice pa2 la2 ma2) (.slice pa3 la3 ma3)
            refine hK _ _ g1 ?_
            try simp only [Act.put, List.setIfInBounds_toArray, List.set]
            have hA2 := ArrAt.mono (G := fun x => x ≠ bb) (w' := ((((wv28.setCell ⟨bb, 0, none⟩ (.int .i64 ka)).setCell ⟨bb, 1, none⟩ (.slice pa1 la1 ma1)).setCell ⟨bb, 2, none⟩ (.slice pa2 la2 ma2)).setCell ⟨bb, 3, none⟩ (.slice pa3 la3 ma3))) (fun x hx _ => ⟨hx, g3 x hx⟩) _ _ _ _ _ hA
            clear x0 x1 x2 x3 y0 y1 y2 y3 g3 hA hB hI hV
            revert g1 g2 hA2
            generalize ((((wv28.setCell ⟨bb, 0, none⟩ (.int .i64 ka)).setCell ⟨bb, 1, none⟩ (.slice pa1 la1 ma1)).setCell ⟨bb, 2, none⟩ (.slice pa2 la2 ma2)).setCell ⟨bb, 3, none⟩ (.slice pa3 la3 ma3)) = wv29
            intro hW' hB hA
            replace hW := hW'
            clear hW'
            refine wpAnyG_one (i := 9) (by kernel_rfl) ⟨_, rfl, fun K hK => ?_⟩
            go_wp2_with fail
            refine hK _ _ hW ?_
            try simp only [Act.put, List.setIfInBounds_toArray, List.set]
            refine wpAnyG_done (by kernel_rfl) ?_ _
            refine OnlyN.mk ?_
            go_wp2_with fail
            go_meet
            case rel => exact ⟨bb, _, _, _, _, rfl, rfl, hB, hA.mono' (fun _ _ _ => trivial), hW⟩
          · skip
            obtain ⟨x0, x1, x2, x3⟩ := hB.cell
            have y0 := hB.free 0
            have y1 := hB.free 1
            have y2 := hB.free 2
            have y3 := hB.free 3
            go_wp2_with fail
            obtain ⟨g1, g2, g3⟩ := hB.put4 hW hbl (.int .i64 ka) (.slice pa1 la1 ma1) (.slice pa2 la2 ma2) (.slice pa3 la3 ma3)
            refine hK _ _ g1 ?_
            try simp only [Act.put, List.setIfInBounds_toArray, List.set]
            have hA2 := ArrAt.mono (G := fun x => x ≠ bb) (w' := ((((wv28.setCell ⟨bb, 0, none⟩ (.int .i64 ka)).setCell ⟨bb, 1, none⟩ (.slice pa1 la1 ma1)).setCell ⟨bb, 2, none⟩ (.slice pa2 la2 ma2)).setCell ⟨bb, 3, none⟩ (.slice pa3 la3 ma3))) (fun x hx _ => ⟨hx, g3 x hx⟩) _ _ _ _ _ hA
            clear x0 x1 x2 x3 y0 y1 y2 y3 g3 hA hB hI hV
            revert g1 g2 hA2
            generalize ((((wv28.setCell ⟨bb, 0, none⟩ (.int .i64 ka)).setCell ⟨bb, 1, none⟩ (.slice pa1 la1 ma1)).setCell ⟨bb, 2, none⟩ (.slice pa2 la2 ma2)).setCell ⟨bb, 3, none⟩ (.slice pa3 la3 ma3)) = wv30
            intro hW' hB hA
            replace hW := hW'
            clear hW'
            refine wpAnyG_one (i := 6) (by kernel_rfl) ⟨_, rfl, fun K hK => ?_⟩
            go_wp2_with fail
            refine hK _ _ hW ?_
            try simp only [Act.put, List.setIfInBounds_toArray, List.set]
            refine wpAnyG_one (i := 9) (by kernel_rfl) ⟨_, rfl, fun K hK => ?_⟩
            go_wp2_with fail
            refine hK _ _ hW ?_
            try simp only [Act.put, List.setIfInBounds_toArray, List.set]
            refine wpAnyG_done (by kernel_rfl) ?_ _
            refine OnlyN.mk ?_
            go_wp2_with fail
            go_meet
            case rel => exact ⟨bb, _, _, _, _, rfl, rfl, hB, hA.mono' (fun _ _ _ => trivial), hW⟩
        · skip
          go_wp2_with fail
          refine hK _ _ hW ?_
          try simp only [Act.put, List.setIfInBounds_toArray, List.set]
          refine wpAnyG_one (i := 5) (by kernel_rfl) ⟨_, rfl, fun K hK => ?_⟩
          go_wp2_with fail
          refine hK _ _ hW ?_
          try simp only [Act.put, List.setIfInBounds_toArray, List.set]
          refine wpAnyG_one (i := 8) (by kernel_rfl) ⟨_, rfl, fun K hK => ?_⟩
          obtain ⟨x0, x1, x2, x3⟩ := hB.cell
          have y0 := hB.free 0
          have y1 := hB.free 1
          have y2 := hB.free 2
          have y3 := hB.free 3
          go_wp2_with fail
          obtain ⟨g1, g2, g3⟩ := hB.put4 hW hbl (.int .i64 ka) (.slice pa1 la1 ma1) (.slice pa2 la2 ma2) (.slice pa3 la3 ma3)
          refine hK _ _ g1 ?_
          try simp only [Act.put, List.setIfInBounds_toArray, List.set]
          have hA2 := ArrAt.mono (G := fun x => x ≠ bb) (w' := ((((wv28.setCell ⟨bb, 0, none⟩ (.int .i64 ka)).setCell ⟨bb, 1, none⟩ (.slice pa1 la1 ma1)).setCell ⟨bb, 2, none⟩ (.slice pa2 la2 ma2)).setCell ⟨bb, 3, none⟩ (.slice pa3 la3 ma3))) (fun x hx _ => ⟨hx, g3 x hx⟩) _ _ _ _ _ hA
          clear x0 x1 x2 x3 y0 y1 y2 y3 g3 hA hB hI hV
          revert g1 g2 hA2
          generalize ((((wv28.setCell ⟨bb, 0, none⟩ (.int .i64 ka)).setCell ⟨bb, 1, none⟩ (.slice pa1 la1 ma1)).setCell ⟨bb, 2, none⟩ (.slice pa2 la2 ma2)).setCell ⟨bb, 3, none⟩ (.slice pa3 la3 ma3)) = wv31
          intro hW' hB hA
          replace hW := hW'
          clear hW'
          refine wpAnyG_one (i := 9) (by kernel_rfl) ⟨_, rfl, fun K hK => ?_⟩
          go_wp2_with fail
          refine hK _ _ hW ?_
          try simp only [Act.put, List.setIfInBounds_toArray, List.set]
          refine wpAnyG_done (by kernel_rfl) ?_ _
          refine OnlyN.mk ?_
          go_wp2_with fail
          go_meet
          case rel => exact ⟨bb, _, _, _, _, rfl, rfl, hB, hA.mono' (fun _ _ _ => trivial), hW⟩
    · skip
      go_wp2_with fail
      refine hK _ _ (hW.trans ((Ext.refl _).alloc (.cells #[.int .i64 0, .slice none 0 0, .slice none 0 0, .slice none 0 0] 26))) ?_
      try simp only [Act.put, List.setIfInBounds_toArray, List.set]
      have hB := box_new wv0 (.int .i64 0) (.slice none 0 0) (.slice none 0 0) (.slice none 0 0)
      have hbl := hW.lt
      have hX' := (Ext.refl wv0).alloc (.cells #[.int .i64 0, .slice none 0 0, .slice none 0 0, .slice none 0 0] 26)
      replace hW := hW.trans hX'
      generalize wv0.heap.size = bb at *
      generalize wv0.alloc (.cells #[.int .i64 0, .slice none 0 0, .slice none 0 0, .slice none 0 0] 26) = wv32 at *
      clear hX'
      refine wpAnyG_one (i := 0) (by kernel_rfl) ⟨_, rfl, fun K hK => ?_⟩
      go_wp2_with fail
      refine hK _ _ (hW.trans ((Ext.refl _).alloc (.cells #[.int .i64 0, .int .i64 0] 3))) ?_
      try simp only [Act.put, List.setIfInBounds_toArray, List.set]
      have hI := (rowI_new wv32 [0, 0]).ints (by decide)
      change IntsAt _ (wv32.alloc (.cells #[.int .i64 0, .int .i64 0] 3)) _ _ at hI
      have hX' := (Ext.refl wv32).alloc (.cells #[.int .i64 0, .int .i64 0] 3)
      replace hW := hW.trans hX'
      replace hB := hB.ext hX'
      generalize wv32.alloc (.cells #[.int .i64 0, .int .i64 0] 3) = wv33 at *
      clear hX'
      refine wpAnyG_one (i := 1) (by kernel_rfl) ⟨_, rfl, fun K hK => ?_⟩
      go_wp2_with fail
      refine (vec_any _ _ 2 [0, 0] wv33 hI ⟨by decide, by decide, by decide⟩).mono ?_
      rintro e wv34 ⟨v0, v1, v2, v3, rfl, hV, hX⟩
      have hX' := hX
      replace hW := hW.trans hX'
      replace hB := hB.ext hX'
      replace hI := hI.ext hX'
      clear hX'
      go_wp2_with fail
      refine hK _ _ hW ?_
      try simp only [Act.put, List.setIfInBounds_toArray, List.set]
      clear hX
      refine wpAnyG_one (i := 3) (by kernel_rfl) ⟨_, rfl, fun K hK => ?_⟩
      go_wp2_with fail
      refine (axesAt _ _ _ _ _ _ _ _ _ _ _ _ _ _ wv34 ex1 hV (HM.out.ext hW)).mono ?_
      rintro e wv35 ⟨a0, a1, a2, a3, rfl, hA, hX⟩
      obtain ⟨ka, pa1, la1, ma1, pa2, la2, ma2, pa3, la3, ma3, rfl, rfl, rfl, rfl⟩ := hA.form
      have hA := hA.mono' (G := fun x => x ≠ bb) (fun x hx _ => by have := hB.lt; omega)
      replace hA := hA
      have hX' := hX
      replace hW := hW.trans hX'
      replace hB := hB.ext hX'
      replace hI := hI.ext hX'
      replace hV := hV.ext hX'
      clear hX'
      go_wp2_with fail
      refine hK _ _ hW ?_
      try simp only [Act.put, List.setIfInBounds_toArray, List.set]
      clear hX
      refine wpAnyG_one (i := 4) (by kernel_rfl) ⟨_, rfl, fun K hK => ?_⟩
      go_wp2_with fail
      refine hK _ _ hW ?_
      try simp only [Act.put, List.setIfInBounds_toArray, List.set]
      refine wpAnyG_two (i := 5) (j := 6) (by kernel_rfl) ⟨_, rfl, fun K hK => ?_⟩ ⟨_, rfl, fun K hK => ?_⟩
      · skip
        go_wp2_with fail
        refine hK _ _ hW ?_
        try simp only [Act.put, List.setIfInBounds_toArray, List.set]
        refine wpAnyG_two (i := 6) (j := 8) (by kernel_rfl) ⟨_, rfl, fun K hK => ?_⟩ ⟨_, rfl, fun K hK => ?_⟩
        · skip
          go_wp2_with fail
          refine hK _ _ hW ?_
          try simp only [Act.put, List.setIfInBounds_toArray, List.set]
          refine wpAnyG_one (i := 8) (by kernel_rfl) ⟨_, rfl, fun K hK => ?_⟩
          obtain ⟨x0, x1, x2, x3⟩ := hB.cell
          have y0 := hB.free 0
          have y1 := hB.free 1
          have y2 := hB.free 2
          have y3 := hB.free 3
          go_wp2_with fail
          obtain ⟨g1, g2, g3⟩ := hB.put4 hW hbl (.int .i64 ka) (.slice pa1 la1 ma1) (.slice pa2 la2 ma2) (.slice pa3 la3 ma3)
          refine hK _ _ g1 ?_
          try simp only [Act.put, List.setIfInBounds_toArray, List.set]
          have hA2 := ArrAt.mono (G := fun x => x ≠ bb) (w' := ((((wv35.setCell ⟨bb, 0, none⟩ (.int .i64 ka)).setCell ⟨bb, 1, none⟩ (.slice pa1 la1 ma1)).setCell ⟨bb, 2, none⟩ (.slice pa2 la2 ma2)).setCell ⟨bb, 3, none⟩ (.slice pa3 la3 ma3))) (fun x hx _ => ⟨hx, g3 x hx⟩) _ _ _ _ _ hA
          clear x0 x1 x2 x3 y0 y1 y2 y3 g3 hA hB hI hV
          revert g1 g2 hA2
          generalize ((((wv35.setCell ⟨bb, 0, none⟩ (.int .i64 ka)).setCell ⟨bb, 1, none⟩ (.slice pa1 la1 ma1)).setCell ⟨bb, 2, none⟩ (.slice pa2 la2 ma2)).setCell ⟨bb, 3, none⟩ (.slice pa3 la3 ma3)) = wv36
          intro hW' hB hA
          replace hW := hW'
          clear hW'
          refine wpAnyG_one (i := 9) (by kernel_rfl) ⟨_, rfl, fun K hK => ?_⟩
          go_wp2_with fail
          refine hK _ _ hW ?_
          try simp only [Act.put, List.setIfInBounds_toArray, List.set]
          refine wpAnyG_done (by kernel_rfl) ?_ _
          refine OnlyN.mk ?_
          go_wp2_with fail
          go_meet
          case rel => exact ⟨bb, _, _, _, _, rfl, rfl, hB, hA.mono' (fun _ _ _ => trivial), hW⟩
        · skip
          obtain ⟨x0, x1, x2, x3⟩ := hB.cell
          have y0 := hB.free 0
          have y1 := hB.free 1
          have y2 := hB.free 2
          have y3 := hB.free 3
          go_wp2_with fail
          obtain ⟨g1, g2, g3⟩ := hB.put4 hW hbl (.int .i64 ka) (.slice pa1 la1 ma1) (.slice pa2 la2 ma2) (.slice pa3 la3 ma3)
          refine hK _ _ g1 ?_
          try simp only [Act.put, List.setIfInBounds_toArray, List.set]
          have hA2 := ArrAt.mono (G := fun x => x ≠ bb) (w' := ((((wv35.setCell ⟨bb, 0, none⟩ (.int .i64 ka)).setCell ⟨bb, 1, none⟩ (.slice pa1 la1 ma1)).setCell ⟨bb, 2, none⟩ (.slice pa2 la2 ma2)).setCell ⟨bb, 3, none⟩ (.slice pa3 la3 ma3))) (fun x hx _ => ⟨hx, g3 x hx⟩) _ _ _ _ _ hA
          clear x0 x1 x2 x3 y0 y1 y2 y3 g3 hA hB hI hV
          revert g1 g2 hA2
          generalize ((((wv35.setCell ⟨bb, 0, none⟩ (.int .i64 ka)).setCell ⟨bb, 1, none⟩ (.slice pa1 la1 ma1)).setCell ⟨bb, 2, none⟩ (.slice pa2 la2 ma2)).setCell ⟨bb, 3, none⟩ (.slice pa3 la3 ma3)) = wv37
          intro hW' hB hA
          replace hW := hW'
          clear hW'
          refine wpAnyG_one (i := 6) (by kernel_rfl) ⟨_, rfl, fun K hK => ?_⟩
          go_wp2_with fail
          refine hK _ _ hW ?_
          try simp only [Act.put, List.setIfInBounds_toArray, List.set]
          refine wpAnyG_one (i := 9) (by kernel_rfl) ⟨_, rfl, fun K hK => ?_⟩
          go_wp2_with fail
          refine hK _ _ hW ?_
          try simp only [Act.put, List.setIfInBounds_toArray, List.set]
          refine wpAnyG_done (by kernel_rfl) ?_ _
          refine OnlyN.mk ?_
          go_wp2_with fail
          go_meet
          case rel => exact ⟨bb, _, _, _, _, rfl, rfl, hB, hA.mono' (fun _ _ _ => trivial), hW⟩
      · skip
        go_wp2_with fail
        refine hK _ _ hW ?_
        try simp only [Act.put, List.setIfInBounds_toArray, List.set]
        refine wpAnyG_one (i := 5) (by kernel_rfl) ⟨_, rfl, fun K hK => ?_⟩
        go_wp2_with fail
        refine hK _ _ hW ?_
        try simp only [Act.put, List.setIfInBounds_toArray, List.set]
        refine wpAnyG_one (i := 8) (by kernel_rfl) ⟨_, rfl, fun K hK => ?_⟩
        obtain ⟨x0, x1, x2, x3⟩ := hB.cell
        have y0 := hB.free 0
        have y1 := hB.free 1
        have y2 := hB.free 2
        have y3 := hB.free 3
        go_wp2_with fail
        obtain ⟨g1, g2, g3⟩ := hB.put4 hW hbl (.int .i64 ka) (.slice pa1 la1 ma1) (.slice pa2 la2 ma2) (.slice pa3 la3 ma3)
        refine hK _ _ g1 ?_
        try simp only [Act.put, List.setIfInBounds_toArray, List.set]
        have hA2 := ArrAt.mono (G := fun x => x ≠ bb) (w' := ((((wv35.setCell ⟨bb, 0, none⟩ (.int .i64 ka)).setCell ⟨bb, 1, none⟩ (.slice pa1 la1 ma1)).setCell ⟨bb, 2, none⟩ (.slice pa2 la2 ma2)).setCell ⟨bb, 3, none⟩ (.slice pa3 la3 ma3))) (fun x hx _ => ⟨hx, g3 x hx⟩) _ _ _ _ _ hA
        clear x0 x1 x2 x3 y0 y1 y2 y3 g3 hA hB hI hV
        revert g1 g2 hA2
        generalize ((((wv35.setCell ⟨bb, 0, none⟩ (.int .i64 ka)).setCell ⟨bb, 1, none⟩ (.slice pa1 la1 ma1)).setCell ⟨bb, 2, none⟩ (.slice pa2 la2 ma2)).setCell ⟨bb, 3, none⟩ (.slice pa3 la3 ma3)) = wv38
        intro hW' hB hA
        replace hW := hW'
        clear hW'
        refine wpAnyG_one (i := 9) (by kernel_rfl) ⟨_, rfl, fun K hK => ?_⟩
        go_wp2_with fail
        refine hK _ _ hW ?_
        try simp only [Act.put, List.setIfInBounds_toArray, List.set]
        refine wpAnyG_done (by kernel_rfl) ?_ _
        refine OnlyN.mk ?_
        go_wp2_with fail
        go_meet
        case rel => exact ⟨bb, _, _, _, _, rfl, rfl, hB, hA.mono' (fun _ _ _ => trivial), hW⟩
  case rest =>
    obtain ⟨bx0, y0, y1, y2, y3, rfl, rfl, hB, hA, hE⟩ := hcut
    obtain ⟨kx0, px0, lx0, nx0, qx0, mx0, ox0, rx0, sx0, tx0, rfl, rfl, rfl, rfl⟩ := hA.form
    replace HM := Lib.hid (HM.out.ext hE)
    replace HMB := Lib.hid (HMB.out.ext hE)
    have HB2 := Lib.hid hB
    have HA2 := Lib.hid hA
    replace hE1 := hE1.trans hE
    clear hB hA hE
    generalize wc = wb2 at *
    go_wp2_with fail
    go_cut [4, 5] (fun sa sb wx => ∃ (b : Nat) (a0 a1 a2 a3 : Value), sa = .pointer (some ⟨b, 0, none⟩) ∧ sb = .int .i64 17 ∧ Box4 wx b a0 a1 a2 a3 ∧ ArrAt (fun _ => True) wx (Arr.zero) a0 a1 a2 a3 ∧ Ext wb2 wx)
    case first =>
      obtain ⟨m0, m1, m2, m3⟩ := HMB.out.cell
      refine wp_region_g0 [2] 9 #[false, false, true, false, false, false, false, false, false, false] (fun w' => Ext wb2 w') (by kernel_rfl) (by kernel_rfl) ((Ext.refl _).drew) ?_
      refine wpHead_cons (v := ?_) rfl (by rfl) (fun w' hS => ?_) ?_
      rotate_left
      · have g0 := hS.cell m0
        have g1 := hS.cell m1
        have g2 := hS.cell m2
        have g3 := hS.cell m3
        go_simp
        try with_reducible rfl
      try simp only [Act.put, List.setIfInBounds_toArray, List.set]
      unfold wpHead
      have hW : Ext wb2 wb2.drew := (Ext.refl _).drew
      generalize wb2.drew = wv0 at hW ⊢
      clear m0 m1 m2 m3
      refine wpAnyG_two (i := 0) (j := 7) (by kernel_rfl) ⟨_, rfl, fun K hK => ?_⟩ ⟨_, rfl, fun K hK => ?_⟩
      · skip
        go_wp2_with fail
        refine hK _ _ (hW.trans ((Ext.refl _).alloc (.cells #[.int .i64 1, .int .i64 1] 3))) ?_
        try simp only [Act.put, List.setIfInBounds_toArray, List.set]
        have hI := (rowI_new wv0 [1, 1]).ints (by decide)
        change IntsAt _ (wv0.alloc (.cells #[.int .i64 1, .int .i64 1] 3)) _ _ at hI
        have hX' := (Ext.refl wv0).alloc (.cells #[.int .i64 1, .int .i64 1] 3)
        replace hW := hW.trans hX'
        generalize wv0.alloc (.cells #[.int .i64 1, .int .i64 1] 3) = wv1 at *
        clear hX'
        refine wpAnyG_two (i := 1) (j := 7) (by kernel_rfl) ⟨_, rfl, fun K hK => ?_⟩ ⟨_, rfl, fun K hK => ?_⟩
        · skip
          go_wp2_with fail
          refine (vec_any _ _ 2 [1, 1] wv1 hI ⟨by decide, by decide, by decide⟩).mono ?_
          rintro e wv2 ⟨v0, v1, v2, v3, rfl, hV, hX⟩
          have hX' := hX
          replace hW := hW.trans hX'
          replace hI := hI.ext hX'
          clear hX'
          go_wp2_with fail
          refine hK _ _ hW ?_
          try simp only [Act.put, List.setIfInBounds_toArray, List.set]
          clear hX
          refine wpAnyG_two (i := 3) (j := 7) (by kernel_rfl) ⟨_, rfl, fun K hK => ?_⟩ ⟨_, rfl, fun K hK => ?_⟩
          · skip
            go_wp2_with fail
            refine (axesAt _ _ _ _ _ _ _ _ _ _ _ _ _ _ wv2 ex2 hV (HM.out.ext hW)).mono ?_
            rintro e wv3 ⟨a0, a1, a2, a3, rfl, hA, hX⟩
            obtain ⟨ka, pa1, la1, ma1, pa2, la2, ma2, pa3, la3, ma3, rfl, rfl, rfl, rfl⟩ := hA.form
            have hX' := hX
            replace hW := hW.trans hX'
            replace hI := hI.ext hX'
            replace hV := hV.ext hX'
            clear hX'
            go_wp2_with fail
            refine hK _ _ hW ?_
            try simp only [Act.put, List.setIfInBounds_toArray, List.set]
            clear hX
            refine wpAnyG_two (i := 4) (j := 7) (by kernel_rfl) ⟨_, rfl, fun K hK => ?_⟩ ⟨_, rfl, fun K hK => ?_⟩
            · skip
              go_wp2_with fail
              refine hK _ _ hW ?_
              try simp only [Act.put, List.setIfInBounds_toArray, List.set]
              refine wpAnyG_three (i := 5) (j := 6) (k := 7) (by kernel_rfl) ⟨_, rfl, fun K hK => ?_⟩ ⟨_, rfl, fun K hK => ?_⟩ ⟨_, rfl, fun K hK => ?_⟩
              · skip
                go_wp2_with fail
                refine hK _ _ hW ?_
                try simp only [Act.put, List.setIfInBounds_toArray, List.set]
                refine wpAnyG_two (i := 6) (j := 7) (by kernel_rfl) ⟨_, rfl, fun K hK => ?_⟩ ⟨_, rfl, fun K hK => ?_⟩
                · skip
                  go_wp2_with fail
                  refine hK _ _ hW ?_
                  try simp only [Act.put, List.setIfInBounds_toArray, List.set]
                  refine wpAnyG_one (i := 7) (by kernel_rfl) ⟨_, rfl, fun K hK => ?_⟩
                  go_wp2_with fail
                  refine hK _ _ (hW.trans ((Ext.refl _).alloc (.cells #[.int .i64 0, .slice none 0 0, .slice none 0 0, .slice none 0 0] 26))) ?_
                  try simp only [Act.put, List.setIfInBounds_toArray, List.set]
                  have hB := box_new wv3 (.int .i64 0) (.slice none 0 0) (.slice none 0 0) (.slice none 0 0)
                  have hbl := hW.lt
                  replace hA := hA.mono' (G := fun x => x ≠ wv3.heap.size) (fun x _ hx => by omega)
                  have hX' := (Ext.refl wv3).alloc (.cells #[.int .i64 0, .slice none 0 0, .slice none 0 0, .slice none 0 0] 26)
                  replace hW := hW.trans hX'
                  replace hI := hI.ext hX'
                  replace hV := hV.ext hX'
                  replace hA := hA.ext hX'
                  generalize wv3.heap.size = bb at *
                  generalize wv3.alloc (.cells #[.int .i64 0, .slice none 0 0, .slice none 0 0, .slice none 0 0] 26) = wv4 at *
                  clear hX'
                  refine wpAnyG_one (i := 8) (by kernel_rfl) ⟨_, rfl, fun K hK => ?_⟩
                  obtain ⟨x0, x1, x2, x3⟩ := hB.cell
                  have y0 := hB.free 0
                  have y1 := hB.free 1
                  have y2 := hB.free 2
                  have y3 := hB.free 3
                  go_wp2_with fail
                  obtain ⟨g1, g2, g3⟩ := hB.put4 hW hbl (.int .i64 ka) (.slice pa1 la1 ma1) (.slice pa2 la2 ma2) (.slice pa3 la3 ma3)
                  refine hK _ _ g1 ?_
                  try simp only [Act.put, List.setIfInBounds_toArray, List.set]
                  have hA2 := ArrAt.mono (G := fun x => x ≠ bb) (w' := ((((wv4.setCell ⟨bb, 0, none⟩ (.int .i64 ka)).setCell ⟨bb, 1, none⟩ (.slice pa1 la1 ma1)).setCell ⟨bb, 2, none⟩ (.slice pa2 la2 ma2)).setCell ⟨bb, 3, none⟩ (.slice pa3 la3 ma3))) (fun x hx _ => ⟨hx, g3 x hx⟩) _ _ _ _ _ hA
                  clear x0 x1 x2 x3 y0 y1 y2 y3 g3 hA hB hI hV
                  revert g1 g2 hA2
                  generalize ((((wv4.setCell ⟨bb, 0, none⟩ (.int .i64 ka)).setCell ⟨bb, 1, none⟩ (.slice pa1 la1 ma1)).setCell ⟨bb, 2, none⟩ (.slice pa2 la2 ma2)).setCell ⟨bb, 3, none⟩ (.slice pa3 la3 ma3)) = wv5
                  intro hW' hB hA
                  replace hW := hW'
                  clear hW'
                  refine wpAnyG_one (i := 9) (by kernel_rfl) ⟨_, rfl, fun K hK => ?_⟩
                  go_wp2_with fail
                  refine hK _ _ hW ?_
                  try simp only [Act.put, List.setIfInBounds_toArray, List.set]
                  refine wpAnyG_done (by kernel_rfl) ?_ _
                  refine OnlyN.mk ?_
                  go_wp2_with fail
                  go_meet
                  case rel => exact ⟨bb, _, _, _, _, rfl, rfl, hB, hA.mono' (fun _ _ _ => trivial), hW⟩
                · skip
                  go_wp2_with fail
                  refine hK _ _ (hW.trans ((Ext.refl _).alloc (.cells #[.int .i64 0, .slice none 0 0, .slice none 0 0, .slice none 0 0] 26))) ?_
                  try simp only [Act.put, List.setIfInBounds_toArray, List.set]
                  have hB := box_new wv3 (.int .i64 0) (.slice none 0 0) (.slice none 0 0) (.slice none 0 0)
                  have hbl := hW.lt
                  replace hA := hA.mono' (G := fun x => x ≠ wv3.heap.size) (fun x _ hx => by omega)
                  have hX' := (Ext.refl wv3).alloc (.cells #[.int .i64 0, .slice none 0 0, .slice none 0 0, .slice none 0 0] 26)
                  replace hW := hW.trans hX'
                  replace hI := hI.ext hX'
                  replace hV := hV.ext hX'
                  replace hA := hA.ext hX'
                  generalize wv3.heap.size = bb at *
                  generalize wv3.alloc (.cells #[.int .i64 0, .slice none 0 0, .slice none 0 0, .slice none 0 0] 26) = wv6 at *
                  clear hX'
                  refine wpAnyG_two (i := 6) (j := 8) (by kernel_rfl) ⟨_, rfl, fun K hK => ?_⟩ ⟨_, rfl, fun K hK => ?_⟩
                  · skip
                    go_wp2_with fail
                    refine hK _ _ hW ?_
                    try simp only [Act.put, List.setIfInBounds_toArray, List.set]
                    refine wpAnyG_one (i := 8) (by kernel_rfl) ⟨_, rfl, fun K hK => ?_⟩
                    obtain ⟨x0, x1, x2, x3⟩ := hB.cell
                    have y0 := hB.free 0
                    have y1 := hB.free 1
                    have y2 := hB.free 2
                    have y3 := hB.free 3
                    go_wp2_with fail
                    obtain ⟨g1, g2, g3⟩ := hB.put4 hW hbl (.int .i64 ka) (.slice pa1 la1 ma1) (.slice pa2 la2 ma2) (.slice pa3 la3 ma3)
                    refine hK _ _ g1 ?_
                    try simp only [Act.put, List.setIfInBounds_toArray, List.set]
                    have hA2 := ArrAt.mono (G := fun x => x ≠ bb) (w' := ((((wv6.setCell ⟨bb, 0, none⟩ (.int .i64 ka)).setCell ⟨bb, 1, none⟩ (.slice pa1 la1 ma1)).setCell ⟨bb, 2, none⟩ (.slice pa2 la2 ma2)).setCell ⟨bb, 3, none⟩ (.slice pa3 la3 ma3))) (fun x hx _ => ⟨hx, g3 x hx⟩) _ _ _ _ _ hA
                    clear x0 x1 x2 x3 y0 y1 y2 y3 g3 hA hB hI hV
                    revert g1 g2 hA2
                    generalize ((((wv6.setCell ⟨bb, 0, none⟩ (.int .i64 ka)).setCell ⟨bb, 1, none⟩ (.slice pa1 la1 ma1)).setCell ⟨bb, 2, none⟩ (.slice pa2 la2 ma2)).setCell ⟨bb, 3, none⟩ (.slice pa3 la3 ma3)) = wv7
                    intro hW' hB hA
                    replace hW := hW'
                    clear hW'
                    refine wpAnyG_one (i := 9) (by kernel_rfl) ⟨_, rfl, fun K hK => ?_⟩
                    go_wp2_with fail
                    refine hK _ _ hW ?_
                    try simp only [Act.put, List.setIfInBounds_toArray, List.set]
                    refine wpAnyG_done (by kernel_rfl) ?_ _
                    refine OnlyN.mk ?_
                    go_wp2_with fail
                    go_meet
                    case rel => exact ⟨bb, _, _, _, _, rfl, rfl, hB, hA.mono' (fun _ _ _ => trivial), hW⟩
                  · skip
                    obtain ⟨x0, x1, x2, x3⟩ := hB.cell
                    have y0 := hB.free 0
                    have y1 := hB.free 1
                    have y2 := hB.free 2
                    have y3 := hB.free 3
                    go_wp2_with fail
                    obtain ⟨g1, g2, g3⟩ := hB.put4 hW hbl (.int .i64 ka) (.slice pa1 la1 ma1) (.slice pa2 la2 ma2) (.slice pa3 la3 ma3)
                    refine hK _ _ g1 ?_
                    try simp only [Act.put, List.setIfInBounds_toArray, List.set]
                    have hA2 := ArrAt.mono (G := fun x => x ≠ bb) (w' := ((((wv6.setCell ⟨bb, 0, none⟩ (.int .i64 ka)).setCell ⟨bb, 1, none⟩ (.slice pa1 la1 ma1)).setCell ⟨bb, 2, none⟩ (.slice pa2 la2 ma2)).setCell ⟨bb, 3, none⟩ (.slice pa3 la3 ma3))) (fun x hx _ => ⟨hx, g3 x hx⟩) _ _ _ _ _ hA
                    clear x0 x1 x2 x3 y0 y1 y2 y3 g3 hA hB hI hV
                    revert g1 g2 hA2
                    generalize ((((wv6.setCell ⟨bb, 0, none⟩ (.int .i64 ka)).setCell ⟨bb, 1, none⟩ (.slice pa1 la1 ma1)).setCell ⟨bb, 2, none⟩ (.slice pa2 la2 ma2)).setCell ⟨bb, 3, none⟩ (.slice pa3 la3 ma3)) = wv8
                    intro hW' hB hA
                    replace hW := hW'
                    clear hW'
                    refine wpAnyG_one (i := 6) (by kernel_rfl) ⟨_, rfl, fun K hK => ?_⟩
                    go_wp2_with fail
                    refine hK _ _ hW ?_
                    try simp only [Act.put, List.setIfInBounds_toArray, List.set]
                    refine wpAnyG_one (i := 9) (by kernel_rfl) ⟨_, rfl, fun K hK => ?_⟩
                    go_wp2_with fail
                    refine hK _ _ hW ?_
                    try simp only [Act.put, List.setIfInBounds_toArray, List.set]
                    refine wpAnyG_done (by kernel_rfl) ?_ _
                    refine OnlyN.mk ?_
                    go_wp2_with fail
                    go_meet
                    case rel => exact ⟨bb, _, _, _, _, rfl, rfl, hB, hA.mono' (fun _ _ _ => trivial), hW⟩
              · skip
                go_wp2_with fail
                refine hK _ _ hW ?_
                try simp only [Act.put, List.setIfInBounds_toArray, List.set]
                refine wpAnyG_two (i := 5) (j := 7) (by kernel_rfl) ⟨_, rfl, fun K hK => ?_⟩ ⟨_, rfl, fun K hK => ?_⟩
                · skip
                  go_wp2_with fail
                  refine hK _ _ hW ?_
                  try simp only [Act.put, List.setIfInBounds_toArray, List.set]
                  refine wpAnyG_one (i := 7) (by kernel_rfl) ⟨_, rfl, fun K hK => ?_⟩
                  go_wp2_with fail
                  refine hK _ _ (hW.trans ((Ext.refl _).alloc (.cells #[.int .i64 0, .slice none 0 0, .slice none 0 0, .slice none 0 0] 26))) ?_
                  try simp only [Act.put, List.setIfInBounds_toArray, List.set]
                  have hB := box_new wv3 (.int .i64 0) (.slice none 0 0) (.slice none 0 0) (.slice none 0 0)
                  have hbl := hW.lt
                  replace hA := hA.mono' (G := fun x => x ≠ wv3.heap.size) (fun x _ hx => by omega)
                  have hX' := (Ext.refl wv3).alloc (.cells #[.int .i64 0, .slice none 0 0, .slice none 0 0, .slice none 0 0] 26)
                  replace hW := hW.trans hX'
                  replace hI := hI.ext hX'
                  replace hV := hV.ext hX'
                  replace hA := hA.ext hX'
                  generalize wv3.heap.size = bb at *
                  generalize wv3.alloc (.cells #[.int .i64 0, .slice none 0 0, .slice none 0 0, .slice none 0 0] 26) = wv9 at *
                  clear hX'
                  refine wpAnyG_one (i := 8) (by kernel_rfl) ⟨_, rfl, fun K hK => ?_⟩
                  obtain ⟨x0, x1, x2, x3⟩ := hB.cell
                  have y0 := hB.free 0
                  have y1 := hB.free 1
                  have y2 := hB.free 2
                  have y3 := hB.free 3
                  go_wp2_with fail
                  obtain ⟨g1, g2, g3⟩ := hB.put4 hW hbl (.int .i64 ka) (.slice pa1 la1 ma1) (.slice pa2 la2 ma2) (.slice pa3 la3 ma3)
                  refine hK _ _ g1 ?_
                  try simp only [Act.put, List.setIfInBounds_toArray, List.set]
                  have hA2 := ArrAt.mono (G := fun x => x ≠ bb) (w' := ((((wv9.setCell ⟨bb, 0, none⟩ (.int .i64 ka)).setCell ⟨bb, 1, none⟩ (.slice pa1 la1 ma1)).setCell ⟨bb, 2, none⟩ (.slice pa2 la2 ma2)).setCell ⟨bb, 3, none⟩ (.slice pa3 la3 ma3))) (fun x hx _ => ⟨hx, g3 x hx⟩) _ _ _ _ _ hA
                  clear x0 x1 x2 x3 y0 y1 y2 y3 g3 hA hB hI hV
                  revert g1 g2 hA2
                  generalize ((((wv9.setCell ⟨bb, 0, none⟩ (.int .i64 ka)).setCell ⟨bb, 1, none⟩ (.slice pa1 la1 ma1)).setCell ⟨bb, 2, none⟩ (.slice pa2 la2 ma2)).setCell ⟨bb, 3, none⟩ (.slice pa3 la3 ma3)) = wv10
                  intro hW' hB hA
                  replace hW := hW'
                  clear hW'
                  refine wpAnyG_one (i := 9) (by kernel_rfl) ⟨_, rfl, fun K hK => ?_⟩
                  go_wp2_with fail
                  refine hK _ _ hW ?_
                  try simp only [Act.put, List.setIfInBounds_toArray, List.set]
                  refine wpAnyG_done (by kernel_rfl) ?_ _
                  refine OnlyN.mk ?_
                  go_wp2_with fail
                  go_meet
                  case rel => exact ⟨bb, _, _, _, _, rfl, rfl, hB, hA.mono' (fun _ _ _ => trivial), hW⟩
                · skip
                  go_wp2_with fail
                  refine hK _ _ (hW.trans ((Ext.refl _).alloc (.cells #[.int .i64 0, .slice none 0 0, .slice none 0 0, .slice none 0 0] 26))) ?_
                  try simp only [Act.put, List.setIfInBounds_toArray, List.set]
                  have hB := box_new wv3 (.int .i64 0) (.slice none 0 0) (.slice none 0 0) (.slice none 0 0)
                  have hbl := hW.lt
                  replace hA := hA.mono' (G := fun x => x ≠ wv3.heap.size) (fun x _ hx => by omega)
                  have hX' := (Ext.refl wv3).alloc (.cells #[.int .i64 0, .slice none 0 0, .slice none 0 0, .slice none 0 0] 26)
                  replace hW := hW.trans hX'
                  replace hI := hI.ext hX'
                  replace hV := hV.ext hX'
                  replace hA := hA.ext hX'
                  generalize wv3.heap.size = bb at *
                  generalize wv3.alloc (.cells #[.int .i64 0, .slice none 0 0, .slice none 0 0, .slice none 0 0] 26) = wv11 at *
                  clear hX'
                  refine wpAnyG_one (i := 5) (by kernel_rfl) ⟨_, rfl, fun K hK => ?_⟩
                  go_wp2_with fail
                  refine hK _ _ hW ?_
                  try simp only [Act.put, List.setIfInBounds_toArray, List.set]
                  refine wpAnyG_one (i := 8) (by kernel_rfl) ⟨_, rfl, fun K hK => ?_⟩
                  obtain ⟨x0, x1, x2, x3⟩ := hB.cell
                  have y0 := hB.free 0
                  have y1 := hB.free 1
                  have y2 := hB.free 2
                  have y3 := hB.free 3
                  go_wp2_with fail
                  obtain ⟨g1, g2, g3⟩ := hB.put4 hW hbl (.int .i64 ka) (.slice pa1 la1 ma1) (.slice pa2 la2 ma2) (.slice pa3 la3 ma3)
                  refine hK _ _ g1 ?_
                  try simp only [Act.put, List.setIfInBounds_toArray, List.set]
                  have hA2 := ArrAt.mono (G := fun x => x ≠ bb) (w' := ((((wv11.setCell ⟨bb, 0, none⟩ (.int .i64 ka)).setCell ⟨bb, 1, none⟩ (.slice pa1 la1 ma1)).setCell ⟨bb, 2, none⟩ (.slice pa2 la2 ma2)).setCell ⟨bb, 3, none⟩ (.slice pa3 la3 ma3))) (fun x hx _ => ⟨hx, g3 x hx⟩) _ _ _ _ _ hA
                  clear x0 x1 x2 x3 y0 y1 y2 y3 g3 hA hB hI hV
                  revert g1 g2 hA2
                  generalize ((((wv11.setCell ⟨bb, 0, none⟩ (.int .i64 ka)).setCell ⟨bb, 1, none⟩ (.slice pa1 la1 ma1)).setCell ⟨bb, 2, none⟩ (.slice pa2 la2 ma2)).setCell ⟨bb, 3, none⟩ (.slice pa3 la3 ma3)) = wv12
                  intro hW' hB hA
                  replace hW := hW'
                  clear hW'
                  refine wpAnyG_one (i := 9) (by kernel_rfl) ⟨_, rfl, fun K hK => ?_⟩
                  go_wp2_with fail
                  refine hK _ _ hW ?_
                  try simp only [Act.put, List.setIfInBounds_toArray, List.set]
                  refine wpAnyG_done (by kernel_rfl) ?_ _
                  refine OnlyN.mk ?_
                  go_wp2_with fail
                  go_meet
                  case rel => exact ⟨bb, _, _, _, _, rfl, rfl, hB, hA.mono' (fun _ _ _ => trivial), hW⟩
              · skip
                go_wp2_with fail
                refine hK _ _ (hW.trans ((Ext.refl _).alloc (.cells #[.int .i64 0, .slice none 0 0, .slice none 0 0, .slice none 0 0] 26))) ?_
                try simp only [Act.put, List.setIfInBounds_toArray, List.set]
                have hB := box_new wv3 (.int .i64 0) (.slice none 0 0) (.slice none 0 0) (.slice none 0 0)
                have hbl := hW.lt
                replace hA := hA.mono' (G := fun x => x ≠ wv3.heap.size) (fun x _ hx => by omega)
                have hX' := (Ext.refl wv3).alloc (.cells #[.int .i64 0, .slice none 0 0, .slice none 0 0, .slice none 0 0] 26)
                replace hW := hW.trans hX'
                replace hI := hI.ext hX'
                replace hV := hV.ext hX'
                replace hA := hA.ext hX'
                generalize wv3.heap.size = bb at *
                generalize wv3.alloc (.cells #[.int .i64 0, .slice none 0 0, .slice none 0 0, .slice none 0 0] 26) = wv13 at *
                clear hX'
                refine wpAnyG_two (i := 5) (j := 6) (by kernel_rfl) ⟨_, rfl, fun K hK => ?_⟩ ⟨_, rfl, fun K hK => ?_⟩
                · skip
                  go_wp2_with fail
                  refine hK _ _ hW ?_
                  try simp only [Act.put, List.setIfInBounds_toArray, List.set]
                  refine wpAnyG_two (i := 6) (j := 8) (by kernel_rfl) ⟨_, rfl, fun K hK => ?_⟩ ⟨_, rfl, fun K hK => ?_⟩
                  · skip
                    go_wp2_with fail
                    refine hK _ _ hW ?_
                    try simp only [Act.put, List.setIfInBounds_toArray, List.set]
                    refine wpAnyG_one (i := 8) (by kernel_rfl) ⟨_, rfl, fun K hK => ?_⟩
                    obtain ⟨x0, x1, x2, x3⟩ := hB.cell
                    have y0 := hB.free 0
                    have y1 := hB.free 1
                    have y2 := hB.free 2
                    have y3 := hB.free 3
                    go_wp2_with fail
                    obtain ⟨g1, g2, g3⟩ := hB.put4 hW hbl (.int .i64 ka) (.slice pa1 la1 ma1) (.slice pa2 la2 ma2) (.slice pa3 la3 ma3)
                    refine hK _ _ g1 ?_
                    try simp only [Act.put, List.setIfInBounds_toArray, List.set]
                    have hA2 := ArrAt.mono (G := fun x => x ≠ bb) (w' := ((((wv13.setCell ⟨bb, 0, none⟩ (.int .i64 ka)).setCell ⟨bb, 1, none⟩ (.slice pa1 la1 ma1)).setCell ⟨bb, 2, none⟩ (.slice pa2 la2 ma2)).setCell ⟨bb, 3, none⟩ (.slice pa3 la3 ma3))) (fun x hx _ => ⟨hx, g3 x hx⟩) _ _ _ _ _ hA
                    clear x0 x1 x2 x3 y0 y1 y2 y3 g3 hA hB hI hV
                    revert g1 g2 hA2
                    generalize ((((wv13.setCell ⟨bb, 0, none⟩ (.int .i64 ka)).setCell ⟨bb, 1, none⟩ (.slice pa1 la1 ma1)).setCell ⟨bb, 2, none⟩ (.slice pa2 la2 ma2)).setCell ⟨bb, 3, none⟩ (.slice pa3 la3 ma3)) = wv14
                    intro hW' hB hA
                    replace hW := hW'
                    clear hW'
                    refine wpAnyG_one (i := 9) (by kernel_rfl) ⟨_, rfl, fun K hK => ?_⟩
                    go_wp2_with fail
                    refine hK _ _ hW ?_
                    try simp only [Act.put, List.setIfInBounds_toArray, List.set]
                    refine wpAnyG_done (by kernel_rfl) ?_ _
                    refine OnlyN.mk ?_
                    go_wp2_with fail
                    go_meet
                    case rel => exact ⟨bb, _, _, _, _, rfl, rfl, hB, hA.mono' (fun _ _ _ => trivial), hW⟩
                  · skip
                    obtain ⟨x0, x1, x2, x3⟩ := hB.cell
                    have y0 := hB.free 0
                    have y1 := hB.free 1
                    have y2 := hB.free 2
                    have y3 := hB.free 3
                    go_wp2_with fail
                    obtain ⟨g1, g2, g3⟩ := hB.put4 hW hbl (.int .i64 ka) (.slice pa1 la1 ma1) (.slice pa2 la2 ma2) (.slice pa3 la3 ma3)
                    refine hK _ _ g1 ?_
                    try simp only [Act.put, List.setIfInBounds_toArray, List.set]
                    have hA2 := ArrAt.mono (G := fun x => x ≠ bb) (w' := ((((wv13.setCell ⟨bb, 0, none⟩ (.int .i64 ka)).setCell ⟨bb, 1, none⟩ (.slice pa1 la1 ma1)).setCell ⟨bb, 2, none⟩ (.slice pa2 la2 ma2)).setCell ⟨bb, 3, none⟩ (.slice pa3 la3 ma3))) (fun x hx _ => ⟨hx, g3 x hx⟩) _ _ _ _ _ hA
                    clear x0 x1 x2 x3 y0 y1 y2 y3 g3 hA hB hI hV
                    revert g1 g2 hA2
                    generalize ((((wv13.setCell ⟨bb, 0, none⟩ (.int .i64 ka)).setCell ⟨bb, 1, none⟩ (.slice pa1 la1 ma1)).setCell ⟨bb, 2, none⟩ (.slice pa2 la2 ma2)).setCell ⟨bb, 3, none⟩ (.slice pa3 la3 ma3)) = wv15
                    intro hW' hB hA
                    replace hW := hW'
                    clear hW'
                    refine wpAnyG_one (i := 6) (by kernel_rfl) ⟨_, rfl, fun K hK => ?_⟩
                    go_wp2_with fail
                    refine hK _ _ hW ?_
                    try simp only [Act.put, List.setIfInBounds_toArray, List.set]
                    refine wpAnyG_one (i := 9) (by kernel_rfl) ⟨_, rfl, fun K hK => ?_⟩
                    go_wp2_with fail
                    refine hK _ _ hW ?_
                    try simp only [Act.put, List.setIfInBounds_toArray, List.set]
                    refine wpAnyG_done (by kernel_rfl) ?_ _
                    refine OnlyN.mk ?_
                    go_wp2_with fail
                    go_meet
                    case rel => exact ⟨bb, _, _, _, _, rfl, rfl, hB, hA.mono' (fun _ _ _ => trivial), hW⟩
                · skip
                  go_wp2_with fail
                  refine hK _ _ hW ?_
                  try simp only [Act.put, List.setIfInBounds_toArray, List.set]
                  refine wpAnyG_one (i := 5) (by kernel_rfl) ⟨_, rfl, fun K hK => ?_⟩
                  go_wp2_with fail
                  refine hK _ _ hW ?_
                  try simp only [Act.put, List.setIfInBounds_toArray, List.set]
                  refine wpAnyG_one (i := 8) (by kernel_rfl) ⟨_, rfl, fun K hK => ?_⟩
                  obtain ⟨x0, x1, x2, x3⟩ := hB.cell
                  have y0 := hB.free 0
                  have y1 := hB.free 1
                  have y2 := hB.free 2
                  have y3 := hB.free 3
                  go_wp2_with fail
                  obtain ⟨g1, g2, g3⟩ := hB.put4 hW hbl (.int .i64 ka) (.slice pa1 la1 ma1) (.slice pa2 la2 ma2) (.slice pa3 la3 ma3)
                  refine hK _ _ g1 ?_
                  try simp only [Act.put, List.setIfInBounds_toArray, List.set]
                  have hA2 := ArrAt.mono (G := fun x => x ≠ bb) (w' := ((((wv13.setCell ⟨bb, 0, none⟩ (.int .i64 ka)).setCell ⟨bb, 1, none⟩ (.slice pa1 la1 ma1)).setCell ⟨bb, 2, none⟩ (.slice pa2 la2 ma2)).setCell ⟨bb, 3, none⟩ (.slice pa3 la3 ma3))) (fun x hx _ => ⟨hx, g3 x hx⟩) _ _ _ _ _ hA
                  clear x0 x1 x2 x3 y0 y1 y2 y3 g3 hA hB hI hV
                  revert g1 g2 hA2
                  generalize ((((wv13.setCell ⟨bb, 0, none⟩ (.int .i64 ka)).setCell ⟨bb, 1, none⟩ (.slice pa1 la1 ma1)).setCell ⟨bb, 2, none⟩ (.slice pa2 la2 ma2)).setCell ⟨bb, 3, none⟩ (.slice pa3 la3 ma3)) = wv16
                  intro hW' hB hA
                  replace hW := hW'
                  clear hW'
                  refine wpAnyG_one (i := 9) (by kernel_rfl) ⟨_, rfl, fun K hK => ?_⟩
                  go_wp2_with fail
                  refine hK _ _ hW ?_
                  try simp only [Act.put, List.setIfInBounds_toArray, List.set]
                  refine wpAnyG_done (by kernel_rfl) ?_ _
                  refine OnlyN.mk ?_
                  go_wp2_with fail
                  go_meet
                  case rel => exact ⟨bb, _, _, _, _, rfl, rfl, hB, hA.mono' (fun _ _ _ => trivial), hW⟩
            · skip
              go_wp2_with fail
              refine hK _ _ (hW.trans ((Ext.refl _).alloc (.cells #[.int .i64 0, .slice none 0 0, .slice none 0 0, .slice none 0 0] 26))) ?_
              try simp only [Act.put, List.setIfInBounds_toArray, List.set]
              have hB := box_new wv3 (.int .i64 0) (.slice none 0 0) (.slice none 0 0) (.slice none 0 0)
              have hbl := hW.lt
              replace hA := hA.mono' (G := fun x => x ≠ wv3.heap.size) (fun x _ hx => by omega)
              have hX' := (Ext.refl wv3).alloc (.cells #[.int .i64 0, .slice none 0 0, .slice none 0 0, .slice none 0 0] 26)
              replace hW := hW.trans hX'
              replace hI := hI.ext hX'
              replace hV := hV.ext hX'
              replace hA := hA.ext hX'
              generalize wv3.heap.size = bb at *
              generalize wv3.alloc (.cells #[.int .i64 0, .slice none 0 0, .slice none 0 0, .slice none 0 0] 26) = wv17 at *
              clear hX'
              refine wpAnyG_one (i := 4) (by kernel_rfl) ⟨_, rfl, fun K hK => ?_⟩
              go_wp2_with fail
              refine hK _ _ hW ?_
              try simp only [Act.put, List.setIfInBounds_toArray, List.set]
              refine wpAnyG_two (i := 5) (j := 6) (by kernel_rfl) ⟨_, rfl, fun K hK => ?_⟩ ⟨_, rfl, fun K hK => ?_⟩
              · skip
                go_wp2_with fail
                refine hK _ _ hW ?_
                try simp only [Act.put, List.setIfInBounds_toArray, List.set]
                refine wpAnyG_two (i := 6) (j := 8) (by kernel_rfl) ⟨_, rfl, fun K hK => ?_⟩ ⟨_, rfl, fun K hK => ?_⟩
                · skip
                  go_wp2_with fail
                  refine hK _ _ hW ?_
                  try simp only [Act.put, List.setIfInBounds_toArray, List.set]
                  refine wpAnyG_one (i := 8) (by kernel_rfl) ⟨_, rfl, fun K hK => ?_⟩
                  obtain ⟨x0, x1, x2, x3⟩ := hB.cell
                  have y0 := hB.free 0
                  have y1 := hB.free 1
                  have y2 := hB.free 2
                  have y3 := hB.free 3
                  go_wp2_with fail
                  obtain ⟨g1, g2, g3⟩ := hB.put4 hW hbl (.int .i64 ka) (.slice pa1 la1 ma1) (.slice pa2 la2 ma2) (.slice pa3 la3 ma3)
                  refine hK _ _ g1 ?_
                  try simp only [Act.put, List.setIfInBounds_toArray, List.set]
                  have hA2 := ArrAt.mono (G := fun x => x ≠ bb) (w' := ((((wv17.setCell ⟨bb, 0, none⟩ (.int .i64 ka)).setCell ⟨bb, 1, none⟩ (.slice pa1 la1 ma1)).setCell ⟨bb, 2, none⟩ (.slice pa2 la2 ma2)).setCell ⟨bb, 3, none⟩ (.slice pa3 la3 ma3))) (fun x hx _ => ⟨hx, g3 x hx⟩) _ _ _ _ _ hA
                  clear x0 x1 x2 x3 y0 y1 y2 y3 g3 hA hB hI hV
                  revert g1 g2 hA2
                  generalize ((((wv17.setCell ⟨bb, 0, none⟩ (.int .i64 ka)).setCell ⟨bb, 1, none⟩ (.slice pa1 la1 ma1)).setCell ⟨bb, 2, none⟩ (.slice pa2 la2 ma2)).setCell ⟨bb, 3, none⟩ (.slice pa3 la3 ma3)) = wv18
                  intro hW' hB hA
                  replace hW := hW'
                  clear hW'
                  refine wpAnyG_one (i := 9) (by kernel_rfl) ⟨_, rfl, fun K hK => ?_⟩
                  go_wp2_with fail
                  refine hK _ _ hW ?_
                  try simp only [Act.put, List.setIfInBounds_toArray, List.set]
                  refine wpAnyG_done (by kernel_rfl) ?_ _
                  refine OnlyN.mk ?_
                  go_wp2_with fail
                  go_meet
                  case rel => exact ⟨bb, _, _, _, _, rfl, rfl, hB, hA.mono' (fun _ _ _ => trivial), hW⟩
                · skip
                  obtain ⟨x0, x1, x2, x3⟩ := hB.cell
                  have y0 := hB.free 0
                  have y1 := hB.free 1
                  have y2 := hB.free 2
                  have y3 := hB.free 3
                  go_wp2_with fail
                  obtain ⟨g1, g2, g3⟩ := hB.put4 hW hbl (.int .i64 ka) (.slice pa1 la1 ma1) (.slice pa2 la2 ma2) (.slice pa3 la3 ma3)
                  refine hK _ _ g1 ?_
                  try simp only [Act.put, List.setIfInBounds_toArray, List.set]
                  have hA2 := ArrAt.mono (G := fun x => x ≠ bb) (w' := ((((wv17.setCell ⟨bb, 0, none⟩ (.int .i64 ka)).setCell ⟨bb, 1, none⟩ (.slice pa1 la1 ma1)).setCell ⟨bb, 2, none⟩ (.slice pa2 la2 ma2)).setCell ⟨bb, 3, none⟩ (.slice pa3 la3 ma3))) (fun x hx _ => ⟨hx, g3 x hx⟩) _ _ _ _ _ hA
                  clear x0 x1 x2 x3 y0 y1 y2 y3 g3 hA hB hI hV
                  revert g1 g2 hA2
                  generalize ((((wv17.setCell ⟨bb, 0, none⟩ (.int .i64 ka)).setCell ⟨bb, 1, none⟩ (.slice pa1 la1 ma1)).setCell ⟨bb, 2, none⟩ (.slice pa2 la2 ma2)).setCell ⟨bb, 3, none⟩ (.slice pa3 la3 ma3)) = wv19
                  intro hW' hB hA
                  replace hW := hW'
                  clear hW'
                  refine wpAnyG_one (i := 6) (by kernel_rfl) ⟨_, rfl, fun K hK => ?_⟩
                  go_wp2_with fail
                  refine hK _ _ hW ?_
                  try simp only [Act.put, List.setIfInBounds_toArray, List.set]
                  refine wpAnyG_one (i := 9) (by kernel_rfl) ⟨_, rfl, fun K hK => ?_⟩
                  go_wp2_with fail
                  refine hK _ _ hW ?_
                  try simp only [Act.put, List.setIfInBounds_toArray, List.set]
                  refine wpAnyG_done (by kernel_rfl) ?_ _
                  refine OnlyN.mk ?_
                  go_wp2_with fail
                  go_meet
                  case rel => exact ⟨bb, _, _, _, _, rfl, rfl, hB, hA.mono' (fun _ _ _ => trivial), hW⟩
              · skip
                go_wp2_with fail
                refine hK _ _ hW ?_
                try simp only [Act.put, List.setIfInBounds_toArray, List.set]
                refine wpAnyG_one (i := 5) (by kernel_rfl) ⟨_, rfl, fun K hK => ?_⟩
                go_wp2_with fail
                refine hK _ _ hW ?_
                try simp only [Act.put, List.setIfInBounds_toArray, List.set]
                refine wpAnyG_one (i := 8) (by kernel_rfl) ⟨_, rfl, fun K hK => ?_⟩
                obtain ⟨x0, x1, x2, x3⟩ := hB.cell
                have y0 := hB.free 0
                have y1 := hB.free 1
                have y2 := hB.free 2
                have y3 := hB.free 3
                go_wp2_with fail
                obtain ⟨g1, g2, g3⟩ := hB.put4 hW hbl (.int .i64 ka) (.slice pa1 la1 ma1) (.slice pa2 la2 ma2) (.slice pa3 la3 ma3)
                refine hK _ _ g1 ?_
                try simp only [Act.put, List.setIfInBounds_toArray, List.set]
                have hA2 := ArrAt.mono (G := fun x => x ≠ bb) (w' := ((((wv17.setCell ⟨bb, 0, none⟩ (.int .i64 ka)).setCell ⟨bb, 1, none⟩ (.slice pa1 la1 ma1)).setCell ⟨bb, 2, none⟩ (.slice pa2 la2 ma2)).setCell ⟨bb, 3, none⟩ (.slice pa3 la3 ma3))) (fun x hx _ => ⟨hx, g3 x hx⟩) _ _ _ _ _ hA
                clear x0 x1 x2 x3 y0 y1 y2 y3 g3 hA hB hI hV
                revert g1 g2 hA2
                generalize ((((wv17.setCell ⟨bb, 0, none⟩ (.int .i64 ka)).setCell ⟨bb, 1, none⟩ (.slice pa1 la1 ma1)).setCell ⟨bb, 2, none⟩ (.slice pa2 la2 ma2)).setCell ⟨bb, 3, none⟩ (.slice pa3 la3 ma3)) = wv20
                intro hW' hB hA
                replace hW := hW'
                clear hW'
                refine wpAnyG_one (i := 9) (by kernel_rfl) ⟨_, rfl, fun K hK => ?_⟩
                go_wp2_with fail
                refine hK _ _ hW ?_
                try simp only [Act.put, List.setIfInBounds_toArray, List.set]
                refine wpAnyG_done (by kernel_rfl) ?_ _
                refine OnlyN.mk ?_
                go_wp2_with fail
                go_meet
                case rel => exact ⟨bb, _, _, _, _, rfl, rfl, hB, hA.mono' (fun _ _ _ => trivial), hW⟩
          · skip
            go_wp2_with fail
            refine hK _ _ (hW.trans ((Ext.refl _).alloc (.cells #[.int .i64 0, .slice none 0 0, .slice none 0 0, .slice none 0 0] 26))) ?_
            try simp only [Act.put, List.setIfInBounds_toArray, List.set]
            have hB := box_new wv2 (.int .i64 0) (.slice none 0 0) (.slice none 0 0) (.slice none 0 0)
            have hbl := hW.lt
            have hX' := (Ext.refl wv2).alloc (.cells #[.int .i64 0, .slice none 0 0, .slice none 0 0, .slice none 0 0] 26)
            replace hW := hW.trans hX'
            replace hI := hI.ext hX'
            replace hV := hV.ext hX'
            generalize wv2.heap.size = bb at *
            generalize wv2.alloc (.cells #[.int .i64 0, .slice none 0 0, .slice none 0 0, .slice none 0 0] 26) = wv21 at *
            clear hX'
            refine wpAnyG_one (i := 3) (by kernel_rfl) ⟨_, rfl, fun K hK => ?_⟩
            go_wp2_with fail
            refine (axesAt _ _ _ _ _ _ _ _ _ _ _ _ _ _ wv21 ex2 hV (HM.out.ext hW)).mono ?_
            rintro e wv22 ⟨a0, a1, a2, a3, rfl, hA, hX⟩
            obtain ⟨ka, pa1, la1, ma1, pa2, la2, ma2, pa3, la3, ma3, rfl, rfl, rfl, rfl⟩ := hA.form
            have hA := hA.mono' (G := fun x => x ≠ bb) (fun x hx _ => by have := hB.lt; omega)
            replace hA := hA
            have hX' := hX
            replace hW := hW.trans hX'
            replace hI := hI.ext hX'
            replace hV := hV.ext hX'
            replace hB := hB.ext hX'
            clear hX'
            go_wp2_with fail
            refine hK _ _ hW ?_
            try simp only [Act.put, List.setIfInBounds_toArray, List.set]
            clear hX
            refine wpAnyG_one (i := 4) (by kernel_rfl) ⟨_, rfl, fun K hK => ?_⟩
            go_wp2_with fail
            refine hK _ _ hW ?_
            try simp only [Act.put, List.setIfInBounds_toArray, List.set]
            refine wpAnyG_two (i := 5) (j := 6) (by kernel_rfl) ⟨_, rfl, fun K hK => ?_⟩ ⟨_, rfl, fun K hK => ?_⟩
            · skip
              go_wp2_with fail
              refine hK _ _ hW ?_
              try simp only [Act.put, List.setIfInBounds_toArray, List.set]
              refine wpAnyG_two (i := 6) (j := 8) (by kernel_rfl) ⟨_, rfl, fun K hK => ?_⟩ ⟨_, rfl, fun K hK => ?_⟩
              · skip
                go_wp2_with fail
                refine hK _ _ hW ?_
                try simp only [Act.put, List.setIfInBounds_toArray, List.set]
                refine wpAnyG_one (i := 8) (by kernel_rfl) ⟨_, rfl, fun K hK => ?_⟩
                obtain ⟨x0, x1, x2, x3⟩ := hB.cell
                have y0 := hB.free 0
                have y1 := hB.free 1
                have y2 := hB.free 2
                have y3 := hB.free 3
                go_wp2_with fail
                obtain ⟨g1, g2, g3⟩ := hB.put4 hW hbl (.int .i64 ka) (.slice pa1 la1 ma1) (.slice pa2 la2 ma2) (.slice pa3 la3 ma3)
                refine hK _ _ g1 ?_
                try simp only [Act.put, List.setIfInBounds_toArray, List.set]
                have hA2 := ArrAt.mono (G := fun x => x ≠ bb) (w' := ((((wv22.setCell ⟨bb, 0, none⟩ (.int .i64 ka)).setCell ⟨bb, 1, none⟩ (.slice pa1 la1 ma1)).setCell ⟨bb, 2, none⟩ (.slice pa2 la2 ma2)).setCell ⟨bb, 3, none⟩ (.slice pa3 la3 ma3))) (fun x hx _ => ⟨hx, g3 x hx⟩) _ _ _ _ _ hA
                clear x0 x1 x2 x3 y0 y1 y2 y3 g3 hA hB hI hV
                revert g1 g2 hA2
                generalize ((((wv22.setCell ⟨bb, 0, none⟩ (.int .i64 ka)).setCell ⟨bb, 1, none⟩ (.slice pa1 la1 ma1)).setCell ⟨bb, 2, none⟩ (.slice pa2 la2 ma2)).setCell ⟨bb, 3, none⟩ (.slice pa3 la3 ma3)) = wv23
                intro hW' hB hA
                replace hW := hW'
                clear hW'
                refine wpAnyG_one (i := 9) (by kernel_rfl) ⟨_, rfl, fun K hK => ?_⟩
                go_wp2_with fail
                refine hK _ _ hW ?_
                try simp only [Act.put, List.setIfInBounds_toArray, List.set]
                refine wpAnyG_done (by kernel_rfl) ?_ _
                refine OnlyN.mk ?_
                go_wp2_with fail
                go_meet
                case rel => exact ⟨bb, _, _, _, _, rfl, rfl, hB, hA.mono' (fun _ _ _ => trivial), hW⟩
              · skip
                obtain ⟨x0, x1, x2, x3⟩ := hB.cell
                have y0 := hB.free 0
                have y1 := hB.free 1
                have y2 := hB.free 2
                have y3 := hB.free 3
                go_wp2_with fail
                obtain ⟨g1, g2, g3⟩ := hB.put4 hW hbl (.int .i64 ka) (.slice pa1 la1 ma1) (.slice pa2 la2 ma2) (.slice pa3 la3 ma3)
                refine hK _ _ g1 ?_
                try simp only [Act.put, List.setIfInBounds_toArray, List.set]
                have hA2 := ArrAt.mono (G := fun x => x ≠ bb) (w' := ((((wv22.setCell ⟨bb, 0, none⟩ (.int .i64 ka)).setCell ⟨bb, 1, none⟩ (.slice pa1 la1 ma1)).setCell ⟨bb, 2, none⟩ (.slice pa2 la2 ma2)).setCell ⟨bb, 3, none⟩ (.slice pa3 la3 ma3))) (fun x hx _ => ⟨hx, g3 x hx⟩) _ _ _ _ _ hA
                clear x0 x1 x2 x3 y0 y1 y2 y3 g3 hA hB hI hV
                revert g1 g2 hA2
                generalize ((((wv22.setCell ⟨bb, 0, none⟩ (.int .i64 ka)).setCell ⟨bb, 1, none⟩ (.slice pa1 la1 ma1)).setCell ⟨bb, 2, none⟩ (.slice pa2 la2 ma2)).setCell ⟨bb, 3, none⟩ (.slice pa3 la3 ma3)) = wv24
                intro hW' hB hA
                replace hW := hW'
                clear hW'
                refine wpAnyG_one (i := 6) (by kernel_rfl) ⟨_, rfl, fun K hK => ?_⟩
                go_wp2_with fail
                refine hK _ _ hW ?_
                try simp only [Act.put, List.setIfInBounds_toArray, List.set]
                refine wpAnyG_one (i := 9) (by kernel_rfl) ⟨_, rfl, fun K hK => ?_⟩
                go_wp2_with fail
                refine hK _ _ hW ?_
                try simp only [Act.put, List.setIfInBounds_toArray, List.set]
                refine wpAnyG_done (by kernel_rfl) ?_ _
                refine OnlyN.mk ?_
                go_wp2_with fail
                go_meet
                case rel => exact ⟨bb, _, _, _, _, rfl, rfl, hB, hA.mono' (fun _ _ _ => trivial), hW⟩
            · skip
              go_wp2_with fail
              refine hK _ _ hW ?_
              try simp only [Act.put, List.setIfInBounds_toArray, List.set]
              refine wpAnyG_one (i := 5) (by kernel_rfl) ⟨_, rfl, fun K hK => ?_⟩
              go_wp2_with fail
              refine hK _ _ hW ?_
              try simp only [Act.put, List.setIfInBounds_toArray, List.set]
              refine wpAnyG_one (i := 8) (by kernel_rfl) ⟨_, rfl, fun K hK => ?_⟩
              obtain ⟨x0, x1, x2, x3⟩ := hB.cell
              have y0 := hB.free 0
              have y1 := hB.free 1
              have y2 := hB.free 2
              have y3 := hB.free 3
              go_wp2_with fail
              obtain ⟨g1, g2, g3⟩ := hB.put4 hW hbl (.int .i64 ka) (.slice pa1 la1 ma1) (.slice pa2 la2 ma2) (.slice pa3 la3 ma3)
              refine hK _ _ g1 ?_
              try simp only [Act.put, List.setIfInBounds_toArray, List.set]
              have hA2 := ArrAt.mono (G := fun x => x ≠ bb) (w' := ((((wv22.setCell ⟨bb, 0, none⟩ (.int .i64 ka)).setCell ⟨bb, 1, none⟩ (.slice pa1 la1 ma1)).setCell ⟨bb, 2, none⟩ (.slice pa2 la2 ma2)).setCell ⟨bb, 3, none⟩ (.slice pa3 la3 ma3))) (fun x hx _ => ⟨hx, g3 x hx⟩) _ _ _ _ _ hA
              clear x0 x1 x2 x3 y0 y1 y2 y3 g3 hA hB hI hV
              revert g1 g2 hA2
              generalize ((((wv22.setCell ⟨bb, 0, none⟩ (.int .i64 ka)).setCell ⟨bb, 1, none⟩ (.slice pa1 la1 ma1)).setCell ⟨bb, 2, none⟩ (.slice pa2 la2 ma2)).setCell ⟨bb, 3, none⟩ (.slice pa3 la3 ma3)) = wv25
              intro hW' hB hA
              replace hW := hW'
              clear hW'
              refine wpAnyG_one (i := 9) (by kernel_rfl) ⟨_, rfl, fun K hK => ?_⟩
              go_wp2_with fail
              refine hK _ _ hW ?_
              try simp only [Act.put, List.setIfInBounds_toArray, List.set]
              refine wpAnyG_done (by kernel_rfl) ?_ _
              refine OnlyN.mk ?_
              go_wp2_with fail
              go_meet
              case rel => exact ⟨bb, _, _, _, _, rfl, rfl, hB, hA.mono' (fun _ _ _ => trivial), hW⟩
        · skip
          go_wp2_with fail
          refine hK _ _ (hW.trans ((Ext.refl _).alloc (.cells #[.int .i64 0, .slice none 0 0, .slice none 0 0, .slice none 0 0] 26))) ?_
          try simp only [Act.put, List.setIfInBounds_toArray, List.set]
          have hB := box_new wv1 (.int .i64 0) (.slice none 0 0) (.slice none 0 0) (.slice none 0 0)
          have hbl := hW.lt
          have hX' := (Ext.refl wv1).alloc (.cells #[.int .i64 0, .slice none 0 0, .slice none 0 0, .slice none 0 0] 26)
          replace hW := hW.trans hX'
          replace hI := hI.ext hX'
          generalize wv1.heap.size = bb at *
          generalize wv1.alloc (.cells #[.int .i64 0, .slice none 0 0, .slice none 0 0, .slice none 0 0] 26) = wv26 at *
          clear hX'
          refine wpAnyG_one (i := 1) (by kernel_rfl) ⟨_, rfl, fun K hK => ?_⟩
          go_wp2_with fail
          refine (vec_any _ _ 2 [1, 1] wv26 hI ⟨by decide, by decide, by decide⟩).mono ?_
          rintro e wv27 ⟨v0, v1, v2, v3, rfl, hV, hX⟩
          have hX' := hX
          replace hW := hW.trans hX'
          replace hI := hI.ext hX'
          replace hB := hB.ext hX'
          clear hX'
          go_wp2_with fail
          refine hK _ _ hW ?_
          try simp only [Act.put, List.setIfInBounds_toArray, List.set]
          clear hX
          refine wpAnyG_one (i := 3) (by kernel_rfl) ⟨_, rfl, fun K hK => ?_⟩
          go_wp2_with fail
          refine (axesAt _ _ _ _ _ _ _ _ _ _ _ _ _ _ wv27 ex2 hV (HM.out.ext hW)).mono ?_
          rintro e wv28 ⟨a0, a1, a2, a3, rfl, hA, hX⟩
          obtain ⟨ka, pa1, la1, ma1, pa2, la2, ma2, pa3, la3, ma3, rfl, rfl, rfl, rfl⟩ := hA.form
          have hA := hA.mono' (G := fun x => x ≠ bb) (fun x hx _ => by have := hB.lt; omega)
          replace hA := hA
          have hX' := hX
          replace hW := hW.trans hX'
          replace hI := hI.ext hX'
          replace hB := hB.ext hX'
          replace hV := hV.ext hX'
          clear hX'
          go_wp2_with fail
          refine hK _ _ hW ?_
          try simp only [Act.put, List.setIfInBounds_toArray, List.set]
          clear hX
          refine wpAnyG_one (i := 4) (by kernel_rfl) ⟨_, rfl, fun K hK => ?_⟩
          go_wp2_with fail
          refine hK _ _ hW ?_
          try simp only [Act.put, List.setIfInBounds_toArray, List.set]
          refine wpAnyG_two (i := 5) (j := 6) (by kernel_rfl) ⟨_, rfl, fun K hK => ?_⟩ ⟨_, rfl, fun K hK => ?_⟩
          · skip
            go_wp2_with fail
            refine hK _ _ hW ?_
            try simp only [Act.put, List.setIfInBounds_toArray, List.set]
            refine wpAnyG_two (i := 6) (j := 8) (by kernel_rfl) ⟨_, rfl, fun K hK => ?_⟩ ⟨_, rfl, fun K hK => ?_⟩
            · skip
              go_wp2_with fail
              refine hK _ _ hW ?_
              try simp only [Act.put, List.setIfInBounds_toArray, List.set]
              refine wpAnyG_one (i := 8) (by kernel_rfl) ⟨_, rfl, fun K hK => ?_⟩
              obtain ⟨x0, x1, x2, x3⟩ := hB.cell
              have y0 := hB.free 0
              have y1 := hB.free 1
              have y2 := hB.free 2
              have y3 := hB.free 3
              go_wp2_with fail
              obtain ⟨g1, g2, g3⟩ := hB.put4 hW hbl (.int .i64 ka) (.slice pa1 la1 ma1) (.slice pa2 la2 ma2) (.slice pa3 la3 ma3)
              refine hK _ _ g1 ?_
              try simp only [Act.put, List.setIfInBounds_toArray, List.set]
              have hA2 := ArrAt.mono (G := fun x => x ≠ bb) (w' := ((((wv28.setCell ⟨bb, 0, none⟩ (.int .i64 ka)).setCell ⟨bb, 1, none⟩ (.slice pa1 la1 ma1)).setCell ⟨bb, 2, none⟩ (.slice pa2 la2 ma2)).setCell ⟨bb, 3, none⟩ (.slice pa3 la3 ma3))) (fun x hx _ => ⟨hx, g3 x hx⟩) _ _ _ _ _ hA
              clear x0 x1 x2 x3 y0 y1 y2 y3 g3 hA hB hI hV
              revert g1 g2 hA2
              generalize ((((wv28.setCell ⟨bb, 0, none⟩ (.int .i64 ka)).setCell ⟨bb, 1, none⟩ (.slice pa1 la1 ma1)).setCell ⟨bb, 2, none⟩ (.slice pa2 la2 ma2)).setCell ⟨bb, 3, none⟩ (.slice pa3 la3 ma3)) = wv29
              intro hW' hB hA
              replace hW := hW'
              clear hW'
              refine wpAnyG_one (i := 9) (by kernel_rfl) ⟨_, rfl, fun K hK => ?_⟩
              go_wp2_with fail
              refine hK _ _ hW ?_
              try simp only [Act.put, List.setIfInBounds_toArray, List.set]
              refine wpAnyG_done (by kernel_rfl) ?_ _
              refine OnlyN.mk ?_
              go_wp2_with fail
              go_meet
              case rel => exact ⟨bb, _, _, _, _, rfl, rfl, hB, hA.mono' (fun _ _ _ => trivial), hW⟩
            · skip
              obtain ⟨x0, x1, x2, x3⟩ := hB.cell
              have y0 := hB.free 0
              have y1 := hB.free 1
              have y2 := hB.free 2
              have y3 := hB.free 3
              go_wp2_with fail
              obtain ⟨g1, g2, g3⟩ := hB.put4 hW hbl (.int .i64 ka) (.slice pa1 la1 ma1) (.slice pa2 la2 ma2) (.slice pa3 la3 ma3)
              refine hK _ _ g1 ?_
              try simp only [Act.put, List.setIfInBounds_toArray, List.set]
              have hA2 := ArrAt.mono (G := fun x => x ≠ bb) (w' := ((((wv28.setCell ⟨bb, 0, none⟩ (.int .i64 ka)).setCell ⟨bb, 1, none⟩ (.slice pa1 la1 ma1)).setCell ⟨bb, 2, none⟩ (.slice pa2 la2 ma2)).setCell ⟨bb, 3, none⟩ (.slice pa3 la3 ma3))) (fun x hx _ => ⟨hx, g3 x hx⟩) _ _ _ _ _ hA
              clear x0 x1 x2 x3 y0 y1 y2 y3 g3 hA hB hI hV
              revert g1 g2 hA2
              generalize ((((wv28.setCell ⟨bb, 0, none⟩ (.int .i64 ka)).setCell ⟨bb, 1, none⟩ (.slice pa1 la1 ma1)).setCell ⟨bb, 2, none⟩ (.slice pa2 la2 ma2)).setCell ⟨bb, 3, none⟩ (.slice pa3 la3 ma3)) = wv30
              intro hW' hB hA
              replace hW := hW'
              clear hW'
              refine wpAnyG_one (i := 6) (by kernel_rfl) ⟨_, rfl, fun K hK => ?_⟩
              go_wp2_with fail
              refine hK _ _ hW ?_
              try simp only [Act.put, List.setIfInBounds_toArray, List.set]
              refine wpAnyG_one (i := 9) (by kernel_rfl) ⟨_, rfl, fun K hK => ?_⟩
              go_wp2_with fail
              refine hK _ _ hW ?_
              try simp only [Act.put, List.setIfInBounds_toArray, List.set]
              refine wpAnyG_done (by kernel_rfl) ?_ _
              refine OnlyN.mk ?_
              go_wp2_with fail
              go_meet
              case rel => exact ⟨bb, _, _, _, _, rfl, rfl, hB, hA.mono' (fun _ _ _ => trivial), hW⟩
          · skip
            go_wp2_with fail
            refine hK _ _ hW ?_
            try simp only [Act.put, List.setIfInBounds_toArray, List.set]
            refine wpAnyG_one (i := 5) (by kernel_rfl) ⟨_, rfl, fun K hK => ?_⟩
            go_wp2_with fail
            refine hK _ _ hW ?_
            try simp only [Act.put, List.setIfInBounds_toArray, List.set]
            refine wpAnyG_one (i := 8) (by kernel_rfl) ⟨_, rfl, fun K hK => ?_⟩
            obtain ⟨x0, x1, x2, x3⟩ := hB.cell
            have y0 := hB.free 0
            have y1 := hB.free 1
            have y2 := hB.free 2
            have y3 := hB.free 3
            go_wp2_with fail
            obtain ⟨g1, g2, g3⟩ := hB.put4 hW hbl (.int .i64 ka) (.slice pa1 la1 ma1) (.slice pa2 la2 ma2) (.slice pa3 la3 ma3)
            refine hK _ _ g1 ?_
            try simp only [Act.put, List.setIfInBounds_toArray, List.set]
            have hA2 := ArrAt.mono (G := fun x => x ≠ bb) (w' := ((((wv28.setCell ⟨bb, 0, none⟩ (.int .i64 ka)).setCell ⟨bb, 1, none⟩ (.slice pa1 la1 ma1)).setCell ⟨bb, 2, none⟩ (.slice pa2 la2 ma2)).setCell ⟨bb, 3, none⟩ (.slice pa3 la3 ma3))) (fun x hx _ => ⟨hx, g3 x hx⟩) _ _ _ _ _ hA
            clear x0 x1 x2 x3 y0 y1 y2 y3 g3 hA hB hI hV
            revert g1 g2 hA2
            generalize ((((wv28.setCell ⟨bb, 0, none⟩ (.int .i64 ka)).setCell ⟨bb, 1, none⟩ (.slice pa1 la1 ma1)).setCell ⟨bb, 2, none⟩ (.slice pa2 la2 ma2)).setCell ⟨bb, 3, none⟩ (.slice pa3 la3 ma3)) = wv31
            intro hW' hB hA
            replace hW := hW'
            clear hW'
            refine wpAnyG_one (i := 9) (by kernel_rfl) ⟨_, rfl, fun K hK => ?_⟩
            go_wp2_with fail
            refine hK _ _ hW ?_
            try simp only [Act.put, List.setIfInBounds_toArray, List.set]
            refine wpAnyG_done (by kernel_rfl) ?_ _
            refine OnlyN.mk ?_
            go_wp2_with fail
            go_meet
            case rel => exact ⟨bb, _, _, _, _, rfl, rfl, hB, hA.mono' (fun _ _ _ => trivial), hW⟩
      · skip
        go_wp2_with fail
        refine hK _ _ (hW.trans ((Ext.refl _).alloc (.cells #[.int .i64 0, .slice none 0 0, .slice none 0 0, .slice none 0 0] 26))) ?_
        try simp only [Act.put, List.setIfInBounds_toArray, List.set]
        have hB := box_new wv0 (.int .i64 0) (.slice none 0 0) (.slice none 0 0) (.slice none 0 0)
        have hbl := hW.lt
        have hX' := (Ext.refl wv0).alloc (.cells #[.int .i64 0, .slice none 0 0, .slice none 0 0, .slice none 0 0] 26)
        replace hW := hW.trans hX'
        generalize wv0.heap.size = bb at *
        generalize wv0.alloc (.cells #[.int .i64 0, .slice none 0 0, .slice none 0 0, .slice none 0 0] 26) = wv32 at *
        clear hX'
        refine wpAnyG_one (i := 0) (by kernel_rfl) ⟨_, rfl, fun K hK => ?_⟩
        go_wp2_with fail
        refine hK _ _ (hW.trans ((Ext.refl _).alloc (.cells #[.int .i64 1, .int .i64 1] 3))) ?_
        try simp only [Act.put, List.setIfInBounds_toArray, List.set]
        have hI := (rowI_new wv32 [1, 1]).ints (by decide)
        change IntsAt _ (wv32.alloc (.cells #[.int .i64 1, .int .i64 1] 3)) _ _ at hI
        have hX' := (Ext.refl wv32).alloc (.cells #[.int .i64 1, .int .i64 1] 3)
        replace hW := hW.trans hX'
        replace hB := hB.ext hX'
        generalize wv32.alloc (.cells #[.int .i64 1, .int .i64 1] 3) = wv33 at *
        clear hX'
        refine wpAnyG_one (i := 1) (by kernel_rfl) ⟨_, rfl, fun K hK => ?_⟩
        go_wp2_with fail
        refine (vec_any _ _ 2 [1, 1] wv33 hI ⟨by decide, by decide, by decide⟩).mono ?_
        rintro e wv34 ⟨v0, v1, v2, v3, rfl, hV, hX⟩
        have hX' := hX
        replace hW := hW.trans hX'
        replace hB := hB.ext hX'
        replace hI := hI.ext hX'
        clear hX'
        go_wp2_with fail
        refine hK _ _ hW ?_
        try simp only [Act.put, List.setIfInBounds_toArray, List.set]
        clear hX
        refine wpAnyG_one (i := 3) (by kernel_rfl) ⟨_, rfl, fun K hK => ?_⟩
        go_wp2_with fail
        refine (axesAt _ _ _ _ _ _ _ _ _ _ _ _ _ _ wv34 ex2 hV (HM.out.ext hW)).mono ?_
        rintro e wv35 ⟨a0, a1, a2, a3, rfl, hA, hX⟩
        obtain ⟨ka, pa1, la1, ma1, pa2, la2, ma2, pa3, la3, ma3, rfl, rfl, rfl, rfl⟩ := hA.form
        have hA := hA.mono' (G := fun x => x ≠ bb) (fun x hx _ => by have := hB.lt; omega)
        replace hA := hA
        have hX' := hX
        replace hW := hW.trans hX'
        replace hB := hB.ext hX'
        replace hI := hI.ext hX'
        replace hV := hV.ext hX'
        clear hX'
        go_wp2_with fail
        refine hK _ _ hW ?_
        try simp only [Act.put, List.setIfInBounds_toArray, List.set]
        clear hX
        refine wpAnyG_one (i := 4) (by kernel_rfl) ⟨_, rfl, fun K hK => ?_⟩
        go_wp2_with fail
        refine hK _ _ hW ?_
        try simp only [Act.put, List.setIfInBounds_toArray, List.set]
        refine wpAnyG_two (i := 5) (j := 6) (by kernel_rfl) ⟨_, rfl, fun K hK => ?_⟩ ⟨_, rfl, fun K hK => ?_⟩
        · skip
          go_wp2_with fail
          refine hK _ _ hW ?_
          try simp only [Act.put, List.setIfInBounds_toArray, List.set]
          refine wpAnyG_two (i := 6) (j := 8) (by kernel_rfl) ⟨_, rfl, fun K hK => ?_⟩ ⟨_, rfl, fun K hK => ?_⟩
          · skip
            go_wp2_with fail
            refine hK _ _ hW ?_
            try simp only [Act.put, List.setIfInBounds_toArray, List.set]
            refine wpAnyG_one (i := 8) (by kernel_rfl) ⟨_, rfl, fun K hK => ?_⟩
            obtain ⟨x0, x1, x2, x3⟩ := hB.cell
            have y0 := hB.free 0
            have y1 := hB.free 1
            have y2 := hB.free 2
            have y3 := hB.free 3
            go_wp2_with fail
            obtain ⟨g1, g2, g3⟩ := hB.put4 hW hbl (.int .i64 ka) (.slice pa1 la1 ma1) (.slice pa2 la2 ma2) (.slice pa3 la3 ma3)
            refine hK _ _ g1 ?_
            try simp only [Act.put, List.setIfInBounds_toArray, List.set]
            have hA2 := ArrAt.mono (G := fun x => x ≠ bb) (w' := ((((wv35.setCell ⟨bb, 0, none⟩ (.int .i64 ka)).setCell ⟨bb, 1, none⟩ (.slice pa1 la1 ma1)).setCell ⟨bb, 2, none⟩ (.slice pa2 la2 ma2)).setCell ⟨bb, 3, none⟩ (.slice pa3 la3 ma3))) (fun x hx _ => ⟨hx, g3 x hx⟩) _ _ _ _ _ hA
            clear x0 x1 x2 x3 y0 y1 y2 y3 g3 hA hB hI hV
            revert g1 g2 hA2
            generalize ((((wv35.setCell ⟨bb, 0, none⟩ (.int .i64 ka)).setCell ⟨bb, 1, none⟩ (.slice pa1 la1 ma1)).setCell ⟨bb, 2, none⟩ (.slice pa2 la2 ma2)).setCell ⟨bb, 3, none⟩ (.slice pa3 la3 ma3)) = wv36
            intro hW' hB hA
            replace hW := hW'
            clear hW'
            refine wpAnyG_one (i := 9) (by kernel_rfl) ⟨_, rfl, fun K hK => ?_⟩
            go_wp2_with fail
            refine hK _ _ hW ?_
            try simp only [Act.put, List.setIfInBounds_toArray, List.set]
            refine wpAnyG_done (by kernel_rfl) ?_ _
            refine OnlyN.mk ?_
            go_wp2_with fail
            go_meet
            case rel => exact ⟨bb, _, _, _, _, rfl, rfl, hB, hA.mono' (fun _ _ _ => trivial), hW⟩
          · skip
            obtain ⟨x0, x1, x2, x3⟩ := hB.cell
            have y0 := hB.free 0
            have y1 := hB.free 1
            have y2 := hB.free 2
            have y3 := hB.free 3
            go_wp2_with fail
            obtain ⟨g1, g2, g3⟩ := hB.put4 hW hbl (.int .i64 ka) (.slice pa1 la1 ma1) (.slice pa2 la2 ma2) (.slice pa3 la3 ma3)
            refine hK _ _ g1 ?_
            try simp only [Act.put, List.setIfInBounds_toArray, List.set]
            have hA2 := ArrAt.mono (G := fun x => x ≠ bb) (w' := ((((wv35.setCell ⟨bb, 0, none⟩ (.int .i64 ka)).setCell ⟨bb, 1, none⟩ (.slice pa1 la1 ma1)).setCell ⟨bb, 2, none⟩ (.slice pa2 la2 ma2)).setCell ⟨bb, 3, none⟩ (.slice pa3 la3 ma3))) (fun x hx _ => ⟨hx, g3 x hx⟩) _ _ _ _ _ hA
            clear x0 x1 x2 x3 y0 y1 y2 y3 g3 hA hB hI hV
            revert g1 g2 hA2
            generalize ((((wv35.setCell ⟨bb, 0, none⟩ (.int .i64 ka)).setCell ⟨bb, 1, none⟩ (.slice pa1 la1 ma1)).setCell ⟨bb, 2, none⟩ (.slice pa2 la2 ma2)).setCell ⟨bb, 3, none⟩ (.slice pa3 la3 ma3)) = wv37
            intro hW' hB hA
            replace hW := hW'
            clear hW'
            refine wpAnyG_one (i := 6) (by kernel_rfl) ⟨_, rfl, fun K hK => ?_⟩
            go_wp2_with fail
            refine hK _ _ hW ?_
            try simp only [Act.put, List.setIfInBounds_toArray, List.set]
            refine wpAnyG_one (i := 9) (by kernel_rfl) ⟨_, rfl, fun K hK => ?_⟩
            go_wp2_with fail
            refine hK _ _ hW ?_
            try simp only [Act.put, List.setIfInBounds_toArray, List.set]
            refine wpAnyG_done (by kernel_rfl) ?_ _
            refine OnlyN.mk ?_
            go_wp2_with fail
            go_meet
            case rel => exact ⟨bb, _, _, _, _, rfl, rfl, hB, hA.mono' (fun _ _ _ => trivial), hW⟩
        · skip
          go_wp2_with fail
          refine hK _ _ hW ?_
          try simp only [Act.put, List.setIfInBounds_toArray, List.set]
          refine wpAnyG_one (i := 5) (by kernel_rfl) ⟨_, rfl, fun K hK => ?_⟩
          go_wp2_with fail
          refine hK _ _ hW ?_
          try simp only [Act.put, List.setIfInBounds_toArray, List.set]
          refine wpAnyG_one (i := 8) (by kernel_rfl) ⟨_, rfl, fun K hK => ?_⟩
          obtain ⟨x0, x1, x2, x3⟩ := hB.cell
          have y0 := hB.free 0
          have y1 := hB.free 1
          have y2 := hB.free 2
          have y3 := hB.free 3
          go_wp2_with fail
          obtain ⟨g1, g2, g3⟩ := hB.put4 hW hbl (.int .i64 ka) (.slice pa1 la1 ma1) (.slice pa2 la2 ma2) (.slice pa3 la3 ma3)
          refine hK _ _ g1 ?_
          try simp only [Act.put, List.setIfInBounds_toArray, List.set]
          have hA2 := ArrAt.mono (G := fun x => x ≠ bb) (w' := ((((wv35.setCell ⟨bb, 0, none⟩ (.int .i64 ka)).setCell ⟨bb, 1, none⟩ (.slice pa1 la1 ma1)).setCell ⟨bb, 2, none⟩ (.slice pa2 la2 ma2)).setCell ⟨bb, 3, none⟩ (.slice pa3 la3 ma3))) (fun x hx _ => ⟨hx, g3 x hx⟩) _ _ _ _ _ hA
          clear x0 x1 x2 x3 y0 y1 y2 y3 g3 hA hB hI hV
          revert g1 g2 hA2
          generalize ((((wv35.setCell ⟨bb, 0, none⟩ (.int .i64 ka)).setCell ⟨bb, 1, none⟩ (.slice pa1 la1 ma1)).setCell ⟨bb, 2, none⟩ (.slice pa2 la2 ma2)).setCell ⟨bb, 3, none⟩ (.slice pa3 la3 ma3)) = wv38
          intro hW' hB hA
          replace hW := hW'
          clear hW'
          refine wpAnyG_one (i := 9) (by kernel_rfl) ⟨_, rfl, fun K hK => ?_⟩
          go_wp2_with fail
          refine hK _ _ hW ?_
          try simp only [Act.put, List.setIfInBounds_toArray, List.set]
          refine wpAnyG_done (by kernel_rfl) ?_ _
          refine OnlyN.mk ?_
          go_wp2_with fail
          go_meet
          case rel => exact ⟨bb, _, _, _, _, rfl, rfl, hB, hA.mono' (fun _ _ _ => trivial), hW⟩
    case rest =>
      obtain ⟨bx1, y0, y1, y2, y3, rfl, rfl, hB, hA, hE⟩ := hcut
      obtain ⟨kx1, px1, lx1, nx1, qx1, mx1, ox1, rx1, sx1, tx1, rfl, rfl, rfl, rfl⟩ := hA.form
      replace HM := Lib.hid (HM.out.ext hE)
      replace HMB := Lib.hid (HMB.out.ext hE)
      replace HB2 := Lib.hid (HB2.out.ext hE)
      replace HA2 := Lib.hid (HA2.out.ext hE)
      replace hE1 := hE1.trans hE
      clear hB hA hE
      generalize wc = wb3 at *
      go_wp2_with fail
      go_cut [6, 7] (fun sa sb wx => ∃ (b : Nat) (a0 a1 a2 a3 : Value), sa = .pointer (some ⟨b, 0, none⟩) ∧ sb = .int .i64 18 ∧ Box4 wx b a0 a1 a2 a3 ∧ ArrAt (fun _ => True) wx (Arr.zero) a0 a1 a2 a3 ∧ Ext wb3 wx)
      case first =>
        obtain ⟨m0, m1, m2, m3⟩ := HMB.out.cell
        refine wp_region_g0 [2] 9 #[false, false, true, false, false, false, false, false, false, false] (fun w' => Ext wb3 w') (by kernel_rfl) (by kernel_rfl) ((Ext.refl _).drew) ?_
        refine wpHead_cons (v := ?_) rfl (by rfl) (fun w' hS => ?_) ?_
        rotate_left
        · have g0 := hS.cell m0
          have g1 := hS.cell m1
          have g2 := hS.cell m2
          have g3 := hS.cell m3
          go_simp
          try with_reducible rfl
        try simp only [Act.put, List.setIfInBounds_toArray, List.set]
        unfold wpHead
        have hW : Ext wb3 wb3.drew := (Ext.refl _).drew
        generalize wb3.drew = wv0 at hW ⊢
        clear m0 m1 m2 m3
        refine wpAnyG_two (i := 0) (j := 7) (by kernel_rfl) ⟨_, rfl, fun K hK => ?_⟩ ⟨_, rfl, fun K hK => ?_⟩
        · skip
          go_wp2_with fail
          refine hK _ _ (hW.trans ((Ext.refl _).alloc (.cells #[.int .i64 0, .int .i64 2] 3))) ?_
          try simp only [Act.put, List.setIfInBounds_toArray, List.set]
          have hI := (rowI_new wv0 [0, 2]).ints (by decide)
          change IntsAt _ (wv0.alloc (.cells #[.int .i64 0, .int .i64 2] 3)) _ _ at hI
          have hX' := (Ext.refl wv0).alloc (.cells #[.int .i64 0, .int .i64 2] 3)
          replace hW := hW.trans hX'
          generalize wv0.alloc (.cells #[.int .i64 0, .int .i64 2] 3) = wv1 at *
          clear hX'
          refine wpAnyG_two (i := 1) (j := 7) (by kernel_rfl) ⟨_, rfl, fun K hK => ?_⟩ ⟨_, rfl, fun K hK => ?_⟩
          · skip
            go_wp2_with fail
            refine (vec_any _ _ 2 [0, 2] wv1 hI ⟨by decide, by decide, by decide⟩).mono ?_
            rintro e wv2 ⟨v0, v1, v2, v3, rfl, hV, hX⟩
            have hX' := hX
            replace hW := hW.trans hX'
            replace hI := hI.ext hX'
            clear hX'
            go_wp2_with fail
            refine hK _ _ hW ?_
            try simp only [Act.put, List.setIfInBounds_toArray, List.set]
            clear hX
            refine wpAnyG_two (i := 3) (j := 7) (by kernel_rfl) ⟨_, rfl, fun K hK => ?_⟩ ⟨_, rfl, fun K hK => ?_⟩
            · skip
              go_wp2_with fail
              refine (axesAt _ _ _ _ _ _ _ _ _ _ _ _ _ _ wv2 ex3 hV (HM.out.ext hW)).mono ?_
              rintro e wv3 ⟨a0, a1, a2, a3, rfl, hA, hX⟩
              obtain ⟨ka, pa1, la1, ma1, pa2, la2, ma2, pa3, la3, ma3, rfl, rfl, rfl, rfl⟩ := hA.form
              have hX' := hX
              replace hW := hW.trans hX'
              replace hI := hI.ext hX'
              replace hV := hV.ext hX'
              clear hX'
              go_wp2_with fail
              refine hK _ _ hW ?_
              try simp only [Act.put, List.setIfInBounds_toArray, List.set]
              clear hX
              refine wpAnyG_two (i := 4) (j := 7) (by kernel_rfl) ⟨_, rfl, fun K hK => ?_⟩ ⟨_, rfl, fun K hK => ?_⟩
              · skip
                go_wp2_with fail
                refine hK _ _ hW ?_
                try simp only [Act.put, List.setIfInBounds_toArray, List.set]
                refine wpAnyG_three (i := 5) (j := 6) (k := 7) (by kernel_rfl) ⟨_, rfl, fun K hK => ?_⟩ ⟨_, rfl, fun K hK => ?_⟩ ⟨_, rfl, fun K hK => ?_⟩
                · skip
                  go_wp2_with fail
                  refine hK _ _ hW ?_
                  try simp only [Act.put, List.setIfInBounds_toArray, List.set]
                  refine wpAnyG_two (i := 6) (j := 7) (by kernel_rfl) ⟨_, rfl, fun K hK => ?_⟩ ⟨_, rfl, fun K hK => ?_⟩
                  · skip
                    go_wp2_with fail
                    refine hK _ _ hW ?_
                    try simp only [Act.put, List.setIfInBounds_toArray, List.set]
                    refine wpAnyG_one (i := 7) (by kernel_rfl) ⟨_, rfl, fun K hK => ?_⟩
                    go_wp2_with fail
                    refine hK _ _ (hW.trans ((Ext.refl _).alloc (.cells #[.int .i64 0, .slice none 0 0, .slice none 0 0, .slice none 0 0] 26))) ?_
                    try simp only [Act.put, List.setIfInBounds_toArray, List.set]
                    have hB := box_new wv3 (.int .i64 0) (.slice none 0 0) (.slice none 0 0) (.slice none 0 0)
                    have hbl := hW.lt
                    replace hA := hA.mono' (G := fun x => x ≠ wv3.heap.size) (fun x _ hx => by omega)
                    have hX' := (Ext.refl wv3).alloc (.cells #[.int .i64 0, .slice none 0 0, .slice none 0 0, .slice none 0 0] 26)
                    replace hW := hW.trans hX'
                    replace hI := hI.ext hX'
                    replace hV := hV.ext hX'
                    replace hA := hA.ext hX'
                    generalize wv3.heap.size = bb at *
                    generalize wv3.alloc (.cells #[.int .i64 0, .slice none 0 0, .slice none 0 0, .slice none 0 0] 26) = wv4 at *
                    clear hX'
                    refine wpAnyG_one (i := 8) (by kernel_rfl) ⟨_, rfl, fun K hK => ?_⟩
                    obtain ⟨x0, x1, x2, x3⟩ := hB.cell
                    have y0 := hB.free 0
                    have y1 := hB.free 1
                    have y2 := hB.free 2
                    have y3 := hB.free 3
                    go_wp2_with fail
                    obtain ⟨g1, g2, g3⟩ := hB.put4 hW hbl (.int .i64 ka) (.slice pa1 la1 ma1) (.slice pa2 la2 ma2) (.slice pa3 la3 ma3)
                    refine hK _ _ g1 ?_
                    try simp only [Act.put, List.setIfInBounds_toArray, List.set]
                    have hA2 := ArrAt.mono (G := fun x => x ≠ bb) (w' := ((((wv4.setCell ⟨bb, 0, none⟩ (.int .i64 ka)).setCell ⟨bb, 1, none⟩ (.slice pa1 la1 ma1)).setCell ⟨bb, 2, none⟩ (.slice pa2 la2 ma2)).setCell ⟨bb, 3, none⟩ (.slice pa3 la3 ma3))) (fun x hx _ => ⟨hx, g3 x hx⟩) _ _ _ _ _ hA
                    clear x0 x1 x2 x3 y0 y1 y2 y3 g3 hA hB hI hV
                    revert g1 g2 hA2
                    generalize ((((wv4.setCell ⟨bb, 0, none⟩ (.int .i64 ka)).setCell ⟨bb, 1, none⟩ (.slice pa1 la1 ma1)).setCell ⟨bb, 2, none⟩ (.slice pa2 la2 ma2)).setCell ⟨bb, 3, none⟩ (.slice pa3 la3 ma3)) = wv5
                    intro hW' hB hA
                    replace hW := hW'
                    clear hW'
                    refine wpAnyG_one (i := 9) (by kernel_rfl) ⟨_, rfl, fun K hK => ?_⟩
                    go_wp2_with fail
                    refine hK _ _ hW ?_
                    try simp only [Act.put, List.setIfInBounds_toArray, List.set]
                    refine wpAnyG_done (by kernel_rfl) ?_ _
                    refine OnlyN.mk ?_
                    go_wp2_with fail
                    go_meet
                    case rel => exact ⟨bb, _, _, _, _, rfl, rfl, hB, hA.mono' (fun _ _ _ => trivial), hW⟩
                  · skip
                    go_wp2_with fail
                    refine hK _ _ (hW.trans ((Ext.refl _).alloc (.cells #[.int .i64 0, .slice none 0 0, .slice none 0 0, .slice none 0 0] 26))) ?_
                    try simp only [Act.put, List.setIfInBounds_toArray, List.set]
                    have hB := box_new wv3 (.int .i64 0) (.slice none 0 0) (.slice none 0 0) (.slice none 0 0)
                    have hbl := hW.lt
                    replace hA := hA.mono' (G := fun x => x ≠ wv3.heap.size) (fun x _ hx => by omega)
                    have hX' := (Ext.refl wv3).alloc (.cells #[.int .i64 0, .slice none 0 0, .slice none 0 0, .slice none 0 0] 26)
                    replace hW := hW.trans hX'
                    replace hI := hI.ext hX'
                    replace hV := hV.ext hX'
                    replace hA := hA.ext hX'
                    generalize wv3.heap.size = bb at *
                    generalize wv3.alloc (.cells #[.int .i64 0, .slice none 0 0, .slice none 0 0, .slice none 0 0] 26) = wv6 at *
                    clear hX'
                    refine wpAnyG_two (i := 6) (j := 8) (by kernel_rfl) ⟨_, rfl, fun K hK => ?_⟩ ⟨_, rfl, fun K hK => ?_⟩
                    · skip
                      go_wp2_with fail
                      refine hK _ _ hW ?_
                      try simp only [Act.put, List.setIfInBounds_toArray, List.set]
                      refine wpAnyG_one (i := 8) (by kernel_rfl) ⟨_, rfl, fun K hK => ?_⟩
                      obtain ⟨x0, x1, x2, x3⟩ := hB.cell
                      have y0 := hB.free 0
                      have y1 := hB.free 1
                      have y2 := hB.free 2
                      have y3 := hB.free 3
                      go_wp2_with fail
                      obtain ⟨g1, g2, g3⟩ := hB.put4 hW hbl (.int .i64 ka) (.slice pa1 la1 ma1) (.slice pa2 la2 ma2) (.slice pa3 la3 ma3)
                      refine hK _ _ g1 ?_
                      try simp only [Act.put, List.setIfInBounds_toArray, List.set]
                      have hA2 := ArrAt.mono (G := fun x => x ≠ bb) (w' := ((((wv6.setCell ⟨bb, 0, none⟩ (.int .i64 ka)).setCell ⟨bb, 1, none⟩ (.slice pa1 la1 ma1)).setCell ⟨bb, 2, none⟩ (.slice pa2 la2 ma2)).setCell ⟨bb, 3, none⟩ (.slice pa3 la3 ma3))) (fun x hx _ => ⟨hx, g3 x hx⟩) _ _ _ _ _ hA
                      clear x0 x1 x2 x3 y0 y1 y2 y3 g3 hA hB hI hV
                      revert g1 g2 hA2
                      generalize ((((wv6.setCell ⟨bb, 0, none⟩ (.int .i64 ka)).setCell ⟨bb, 1, none⟩ (.slice pa1 la1 ma1)).setCell ⟨bb, 2, none⟩ (.slice pa2 la2 ma2)).setCell ⟨bb, 3, none⟩ (.slice pa3 la3 ma3)) = wv7
                      intro hW' hB hA
                      replace hW := hW'
                      clear hW'
                      refine wpAnyG_one (i := 9) (by kernel_rfl) ⟨_, rfl, fun K hK => ?_⟩
                      go_wp2_with fail
                      refine hK _ _ hW ?_
                      try simp only [Act.put, List.setIfInBounds_toArray, List.set]
                      refine wpAnyG_done (by kernel_rfl) ?_ _
                      refine OnlyN.mk ?_
                      go_wp2_with fail
                      go_meet
                      case rel => exact ⟨bb, _, _, _, _, rfl, rfl, hB, hA.mono' (fun _ _ _ => trivial), hW⟩
                    · skip
                      obtain ⟨x0, x1, x2, x3⟩ := hB.cell
                      have y0 := hB.free 0
                      have y1 := hB.free 1
                      have y2 := hB.free 2
                      have y3 := hB.free 3
                      go_wp2_with fail
                      obtain ⟨g1, g2, g3⟩ := hB.put4 hW hbl (.int .i64 ka) (.slice pa1 la1 ma1) (.slice pa2 la2 ma2) (.slice pa3 la3 ma3)
                      refine hK _ _ g1 ?_
                      try simp only [Act.put, List.setIfInBounds_toArray, List.set]
                      have hA2 := ArrAt.mono (G := fun x => x ≠ bb) (w' := ((((wv6.setCell ⟨bb, 0, none⟩ (.int .i64 ka)).setCell ⟨bb, 1, none⟩ (.slice pa1 la1 ma1)).setCell ⟨bb, 2, none⟩ (.slice pa2 la2 ma2)).setCell ⟨bb, 3, none⟩ (.slice pa3 la3 ma3))) (fun x hx _ => ⟨hx, g3 x hx⟩) _ _ _ _ _ hA
                      clear x0 x1 x2 x3 y0 y1 y2 y3 g3 hA hB hI hV
                      revert g1 g2 hA2
                      generalize ((((wv6.setCell ⟨bb, 0, none⟩ (.int .i64 ka)).setCell ⟨bb, 1, none⟩ (.slice pa1 la1 ma1)).setCell ⟨bb, 2, none⟩ (.slice pa2 la2 ma2)).setCell ⟨bb, 3, none⟩ (.slice pa3 la3 ma3)) = wv8
                      intro hW' hB hA
                      replace hW := hW'
                      clear hW'
                      refine wpAnyG_one (i := 6) (by kernel_rfl) ⟨_, rfl, fun K hK => ?_⟩
                      go_wp2_with fail
                      refine hK _ _ hW ?_
                      try simp only [Act.put, List.setIfInBounds_toArray, List.set]
                      refine wpAnyG_one (i := 9) (by kernel_rfl) ⟨_, rfl, fun K hK => ?_⟩
                      go_wp2_with fail
                      refine hK _ _ hW ?_
                      try simp only [Act.put, List.setIfInBounds_toArray, List.set]
                      refine wpAnyG_done (by kernel_rfl) ?_ _
                      refine OnlyN.mk ?_
                      go_wp2_with fail
                      go_meet
                      case rel => exact ⟨bb, _, _, _, _, rfl, rfl, hB, hA.mono' (fun _ _ _ => trivial), hW⟩
                · skip
                  go_wp2_with fail
                  refine hK _ _ hW ?_
                  try simp only [Act.put, List.setIfInBounds_toArray, List.set]
                  refine wpAnyG_two (i := 5) (j := 7) (by kernel_rfl) ⟨_, rfl, fun K hK => ?_⟩ ⟨_, rfl, fun K hK => ?_⟩
                  · skip
                    go_wp2_with fail
                    refine hK _ _ hW ?_
                    try simp only [Act.put, List.setIfInBounds_toArray, List.set]
                    refine wpAnyG_one (i := 7) (by kernel_rfl) ⟨_, rfl, fun K hK => ?_⟩
                    go_wp2_with fail
                    refine hK _ _ (hW.trans ((Ext.refl _).alloc (.cells #[.int .i64 0, .slice none 0 0, .slice none 0 0, .slice none 0 0] 26))) ?_
                    try simp only [Act.put, List.setIfInBounds_toArray, List.set]
                    have hB := box_new wv3 (.int .i64 0) (.slice none 0 0) (.slice none 0 0) (.slice none 0 0)
                    have hbl := hW.lt
                    replace hA := hA.mono' (G := fun x => x ≠ wv3.heap.size) (fun x _ hx => by omega)
                    have hX' := (Ext.refl wv3).alloc (.cells #[.int .i64 0, .slice none 0 0, .slice none 0 0, .slice none 0 0] 26)
                    replace hW := hW.trans hX'
                    replace hI := hI.ext hX'
                    replace hV := hV.ext hX'
                    replace hA := hA.ext hX'
                    generalize wv3.heap.size = bb at *
                    generalize wv3.alloc (.cells #[.int .i64 0, .slice none 0 0, .slice none 0 0, .slice none 0 0] 26) = wv9 at *
                    clear hX'
                    refine wpAnyG_one (i := 8) (by kernel_rfl) ⟨_, rfl, fun K hK => ?_⟩
                    obtain ⟨x0, x1, x2, x3⟩ := hB.cell
                    have y0 := hB.free 0
                    have y1 := hB.free 1
                    have y2 := hB.free 2
                    have y3 := hB.free 3
                    go_wp2_with fail
                    obtain ⟨g1, g2, g3⟩ := hB.put4 hW hbl (.int .i64 ka) (.slice pa1 la1 ma1) (.slice pa2 la2 ma2) (.slice pa3 la3 ma3)
                    refine hK _ _ g1 ?_
                    try simp only [Act.put, List.setIfInBounds_toArray, List.set]
                    have hA2 := ArrAt.mono (G := fun x => x ≠ bb) (w' := ((((wv9.setCell ⟨bb, 0, none⟩ (.int .i64 ka)).setCell ⟨bb, 1, none⟩ (.slice pa1 la1 ma1)).setCell ⟨bb, 2, none⟩ (.slice pa2 la2 ma2)).setCell ⟨bb, 3, none⟩ (.slice pa3 la3 ma3))) (fun x hx _ => ⟨hx, g3 x hx⟩) _ _ _ _ _ hA
                    clear x0 x1 x2 x3 y0 y1 y2 y3 g3 hA hB hI hV
                    revert g1 g2 hA2
                    generalize ((((wv9.setCell ⟨bb, 0, none⟩ (.int .i64 ka)).setCell ⟨bb, 1, none⟩ (.slice pa1 la1 ma1)).setCell ⟨bb, 2, none⟩ (.slice pa2 la2 ma2)).setCell ⟨bb, 3, none⟩ (.slice pa3 la3 ma3)) = wv10
                    intro hW' hB hA
                    replace hW := hW'
                    clear hW'
                    refine wpAnyG_one (i := 9) (by kernel_rfl) ⟨_, rfl, fun K hK => ?_⟩
                    go_wp2_with fail
                    refine hK _ _ hW ?_
                    try simp only [Act.put, List.setIfInBounds_toArray, List.set]
                    refine wpAnyG_done (by kernel_rfl) ?_ _
                    refine OnlyN.mk ?_
                    go_wp2_with fail
                    go_meet
                    case rel => exact ⟨bb, _, _, _, _, rfl, rfl, hB, hA.mono' (fun _ _ _ => trivial), hW⟩
                  · skip
                    go_wp2_with fail
                    refine hK _ _ (hW.trans ((Ext.refl _).alloc (.cells #[.int .i64 0, .slice none 0 0, .slice none 0 0, .slice none 0 0] 26))) ?_
                    try simp only [Act.put, List.setIfInBounds_toArray, List.set]
                    have hB := box_new wv3 (.int .i64 0) (.slice none 0 0) (.slice none 0 0) (.slice none 0 0)
                    have hbl := hW.lt
                    replace hA := hA.mono' (G := fun x => x ≠ wv3.heap.size) (fun x _ hx => by omega)
                    have hX' := (Ext.refl wv3).alloc (.cells #[.int .i64 0, .slice none 0 0, .slice none 0 0, .slice none 0 0] 26)
                    replace hW := hW.trans hX'
                    replace hI := hI.ext hX'
                    replace hV := hV.ext hX'
                    replace hA := hA.ext hX'
                    generalize wv3.heap.size = bb at *
                    generalize wv3.alloc (.cells #[.int .i64 0, .slice none 0 0, .slice none 0 0, .slice none 0 0] 26) = wv11 at *
                    clear hX'
                    refine wpAnyG_one (i := 5) (by kernel_rfl) ⟨_, rfl, fun K hK => ?_⟩
                    go_wp2_with fail
                    refine hK _ _ hW ?_
                    try simp only [Act.put, List.setIfInBounds_toArray, List.set]
                    refine wpAnyG_one (i := 8) (by kernel_rfl) ⟨_, rfl, fun K hK => ?_⟩
                    obtain ⟨x0, x1, x2, x3⟩ := hB.cell
                    have y0 := hB.free 0
                    have y1 := hB.free 1
                    have y2 := hB.free 2
                    have y3 := hB.free 3
                    go_wp2_with fail
                    obtain ⟨g1, g2, g3⟩ := hB.put4 hW hbl (.int .i64 ka) (.slice pa1 la1 ma1) (.slice pa2 la2 ma2) (.slice pa3 la3 ma3)
                    refine hK _ _ g1 ?_
                    try simp only [Act.put, List.setIfInBounds_toArray, List.set]
                    have hA2 := ArrAt.mono (G := fun x => x ≠ bb) (w' := ((((wv11.setCell ⟨bb, 0, none⟩ (.int .i64 ka)).setCell ⟨bb, 1, none⟩ (.slice pa1 la1 ma1)).setCell ⟨bb, 2, none⟩ (.slice pa2 la2 ma2)).setCell ⟨bb, 3, none⟩ (.slice pa3 la3 ma3))) (fun x hx _ => ⟨hx, g3 x hx⟩) _ _ _ _ _ hA
                    clear x0 x1 x2 x3 y0 y1 y2 y3 g3 hA hB hI hV
                    revert g1 g2 hA2
                    generalize ((((wv11.setCell ⟨bb, 0, none⟩ (.int .i64 ka)).setCell ⟨bb, 1, none⟩ (.slice pa1 la1 ma1)).setCell ⟨bb, 2, none⟩ (.slice pa2 la2 ma2)).setCell ⟨bb, 3, none⟩ (.slice pa3 la3 ma3)) = wv12
                    intro hW' hB hA
                    replace hW := hW'
                    clear hW'
                    refine wpAnyG_one (i := 9) (by kernel_rfl) ⟨_, rfl, fun K hK => ?_⟩
                    go_wp2_with fail
                    refine hK _ _ hW ?_
                    try simp only [Act.put, List.setIfInBounds_toArray, List.set]
                    refine wpAnyG_done (by kernel_rfl) ?_ _
                    refine OnlyN.mk ?_
                    go_wp2_with fail
                    go_meet
                    case rel => exact ⟨bb, _, _, _, _, rfl, rfl, hB, hA.mono' (fun _ _ _ => trivial), hW⟩
                · skip
                  go_wp2_with fail
                  refine hK _ _ (hW.trans ((Ext.refl _).alloc (.cells #[.int .i64 0, .slice none 0 0, .slice none 0 0, .slice none 0 0] 26))) ?_
                  try simp only [Act.put, List.setIfInBounds_toArray, List.set]
                  have hB := box_new wv3 (.int .i64 0) (.slice none 0 0) (.slice none 0 0) (.slice none 0 0)
                  have hbl := hW.lt
                  replace hA := hA.mono' (G := fun x => x ≠ wv3.heap.size) (fun x _ hx => by omega)
                  have hX' := (Ext.refl wv3).alloc (.cells #[.int .i64 0, .slice none 0 0, .slice none 0 0, .slice none 0 0] 26)
                  replace hW := hW.trans hX'
                  replace hI := hI.ext hX'
                  replace hV := hV.ext hX'
                  replace hA := hA.ext hX'
                  generalize wv3.heap.size = bb at *
                  generalize wv3.alloc (.cells #[.int .i64 0, .slice none 0 0, .slice none 0 0, .slice none 0 0] 26) = wv13 at *
                  clear hX'
                  refine wpAnyG_two (i := 5) (j := 6) (by kernel_rfl) ⟨_, rfl, fun K hK => ?_⟩ ⟨_, rfl, fun K hK => ?_⟩
                  · skip
                    go_wp2_with fail
                    refine hK _ _ hW ?_
                    try simp only [Act.put, List.setIfInBounds_toArray, List.set]
                    refine wpAnyG_two (i := 6) (j := 8) (by kernel_rfl) ⟨_, rfl, fun K hK => ?_⟩ ⟨_, rfl, fun K hK => ?_⟩
                    · skip
                      go_wp2_with fail
                      refine hK _ _ hW ?_
                      try simp only [Act.put, List.setIfInBounds_toArray, List.set]
                      refine wpAnyG_one (i := 8) (by kernel_rfl) ⟨_, rfl, fun K hK => ?_⟩
                      obtain ⟨x0, x1, x2, x3⟩ := hB.cell
                      have y0 := hB.free 0
                      have y1 := hB.free 1
                      have y2 := hB.free 2
                      have y3 := hB.free 3
                      go_wp2_with fail
                      obtain ⟨g1, g2, g3⟩ := hB.put4 hW hbl (.int .i64 ka) (.slice pa1 la1 ma1) (.slice pa2 la2 ma2) (.slice pa3 la3 ma3)
                      refine hK _ _ g1 ?_
                      try simp only [Act.put, List.setIfInBounds_toArray, List.set]
                      have hA2 := ArrAt.mono (G := fun x => x ≠ bb) (w' := ((((wv13.setCell ⟨bb, 0, none⟩ (.int .i64 ka)).setCell ⟨bb, 1, none⟩ (.slice pa1 la1 ma1)).setCell ⟨bb, 2, none⟩ (.slice pa2 la2 ma2)).setCell ⟨bb, 3, none⟩ (.slice pa3 la3 ma3))) (fun x hx _ => ⟨hx, g3 x hx⟩) _ _ _ _ _ hA
                      clear x0 x1 x2 x3 y0 y1 y2 y3 g3 hA hB hI hV
                      revert g1 g2 hA2
                      generalize ((((wv13.setCell ⟨bb, 0, none⟩ (.int .i64 ka)).setCell ⟨bb, 1, none⟩ (.slice pa1 la1 ma1)).setCell ⟨bb, 2, none⟩ (.slice pa2 la2 ma2)).setCell ⟨bb, 3, none⟩ (.slice pa3 la3 ma3)) = wv14
                      intro hW' hB hA
                      replace hW := hW'
                      clear hW'
                      refine wpAnyG_one (i := 9) (by kernel_rfl) ⟨_, rfl, fun K hK => ?_⟩
                      go_wp2_with fail
                      refine hK _ _ hW ?_
                      try simp only [Act.put, List.setIfInBounds_toArray, List.set]
                      refine wpAnyG_done (by kernel_rfl) ?_ _
                      refine OnlyN.mk ?_
                      go_wp2_with fail
                      go_meet
                      case rel => exact ⟨bb, _, _, _, _, rfl, rfl, hB, hA.mono' (fun _ _ _ => trivial), hW⟩
                    · skip
                      obtain ⟨x0, x1, x2, x3⟩ := hB.cell
                      have y0 := hB.free 0
                      have y1 := hB.free 1
                      have y2 := hB.free 2
                      have y3 := hB.free 3
                      go_wp2_with fail
                      obtain ⟨g1, g2, g3⟩ := hB.put4 hW hbl (.int .i64 ka) (.slice pa1 la1 ma1) (.slice pa2 la2 ma2) (.slice pa3 la3 ma3)
                      refine hK _ _ g1 ?_
                      try simp only [Act.put, List.setIfInBounds_toArray, List.set]
                      have hA2 := ArrAt.mono (G := fun x => x ≠ bb) (w' := ((((wv13.setCell ⟨bb, 0, none⟩ (.int .i64 ka)).setCell ⟨bb, 1, none⟩ (.slice pa1 la1 ma1)).setCell ⟨bb, 2, none⟩ (.slice pa2 la2 ma2)).setCell ⟨bb, 3, none⟩ (.slice pa3 la3 ma3))) (fun x hx _ => ⟨hx, g3 x hx⟩) _ _ _ _ _ hA
                      clear x0 x1 x2 x3 y0 y1 y2 y3 g3 hA hB hI hV
                      revert g1 g2 hA2
                      generalize ((((wv13.setCell ⟨bb, 0, none⟩ (.int .i64 ka)).setCell ⟨bb, 1, none⟩ (.slice pa1 la1 ma1)).setCell ⟨bb, 2, none⟩ (.slice pa2 la2 ma2)).setCell ⟨bb, 3, none⟩ (.slice pa3 la3 ma3)) = wv15
                      intro hW' hB hA
                      replace hW := hW'
                      clear hW'
                      refine wpAnyG_one (i := 6) (by kernel_rfl) ⟨_, rfl, fun K hK => ?_⟩
                      go_wp2_with fail
                      refine hK _ _ hW ?_
                      try simp only [Act.put, List.setIfInBounds_toArray, List.set]
                      refine wpAnyG_one (i := 9) (by kernel_rfl) ⟨_, rfl, fun K hK => ?_⟩
                      go_wp2_with fail
                      refine hK _ _ hW ?_
                      try simp only [Act.put, List.setIfInBounds_toArray, List.set]
                      refine wpAnyG_done (by kernel_rfl) ?_ _
                      refine OnlyN.mk ?_
                      go_wp2_with fail
                      go_meet
                      case rel => exact ⟨bb, _, _, _, _, rfl, rfl, hB, hA.mono' (fun _ _ _ => trivial), hW⟩
                  · skip
                    go_wp2_with fail
                    refine hK _ _ hW ?_
                    try simp only [Act.put, List.setIfInBounds_toArray, List.set]
                    refine wpAnyG_one (i := 5) (by kernel_rfl) ⟨_, rfl, fun K hK => ?_⟩
                    go_wp2_with fail
                    refine hK _ _ hW ?_
                    try simp only [Act.put, List.setIfInBounds_toArray, List.set]
                    refine wpAnyG_one (i := 8) (by kernel_rfl) ⟨_, rfl, fun K hK => ?_⟩
                    obtain ⟨x0, x1, x2, x3⟩ := hB.cell
                    have y0 := hB.free 0
                    have y1 := hB.free 1
                    have y2 := hB.free 2
                    have y3 := hB.free 3
                    go_wp2_with fail
                    obtain ⟨g1, g2, g3⟩ := hB.put4 hW hbl (.int .i64 ka) (.slice pa1 la1 ma1) (.slice pa2 la2 ma2) (.slice pa3 la3 ma3)
                    refine hK _ _ g1 ?_
                    try simp only [Act.put, List.setIfInBounds_toArray, List.set]
                    have hA2 := ArrAt.mono (G := fun x => x ≠ bb) (w' := ((((wv13.setCell ⟨bb, 0, none⟩ (.int .i64 ka)).setCell ⟨bb, 1, none⟩ (.slice pa1 la1 ma1)).setCell ⟨bb, 2, none⟩ (.slice pa2 la2 ma2)).setCell ⟨bb, 3, none⟩ (.slice pa3 la3 ma3))) (fun x hx _ => ⟨hx, g3 x hx⟩) _ _ _ _ _ hA
                    clear x0 x1 x2 x3 y0 y1 y2 y3 g3 hA hB hI hV
                    revert g1 g2 hA2
                    generalize ((((wv13.setCell ⟨bb, 0, none⟩ (.int .i64 ka)).setCell ⟨bb, 1, none⟩ (.slice pa1 la1 ma1)).setCell ⟨bb, 2, none⟩ (.slice pa2 la2 ma2)).setCell ⟨bb, 3, none⟩ (.slice pa3 la3 ma3)) = wv16
                    intro hW' hB hA
                    replace hW := hW'
                    clear hW'
                    refine wpAnyG_one (i := 9) (by kernel_rfl) ⟨_, rfl, fun K hK => ?_⟩
                    go_wp2_with fail
                    refine hK _ _ hW ?_
                    try simp only [Act.put, List.setIfInBounds_toArray, List.set]
                    refine wpAnyG_done (by kernel_rfl) ?_ _
                    refine OnlyN.mk ?_
                    go_wp2_with fail
                    go_meet
                    case rel => exact ⟨bb, _, _, _, _, rfl, rfl, hB, hA.mono' (fun _ _ _ => trivial), hW⟩
              · skip
                go_wp2_with fail
                refine hK _ _ (hW.trans ((Ext.refl _).alloc (.cells #[.int .i64 0, .slice none 0 0, .slice none 0 0, .slice none 0 0] 26))) ?_
                try simp only [Act.put, List.setIfInBounds_toArray, List.set]
                have hB := box_new wv3 (.int .i64 0) (.slice none 0 0) (.slice none 0 0) (.slice none 0 0)
                have hbl := hW.lt
                replace hA := hA.mono' (G := fun x => x ≠ wv3.heap.size) (fun x _ hx => by omega)
                have hX' := (Ext.refl wv3).alloc (.cells #[.int .i64 0, .slice none 0 0, .slice none 0 0, .slice none 0 0] 26)
                replace hW := hW.trans hX'
                replace hI := hI.ext hX'
                replace hV := hV.ext hX'
                replace hA := hA.ext hX'
                generalize wv3.heap.size = bb at *
                generalize wv3.alloc (.cells #[.int .i64 0, .slice none 0 0, .slice none 0 0, .slice none 0 0] 26) = wv17 at *
                clear hX'
                refine wpAnyG_one (i := 4) (by kernel_rfl) ⟨_, rfl, fun K hK => ?_⟩
                go_wp2_with fail
                refine hK _ _ hW ?_
                try simp only [Act.put, List.setIfInBounds_toArray, List.set]
                refine wpAnyG_two (i := 5) (j := 6) (by kernel_rfl) ⟨_, rfl, fun K hK => ?_⟩ ⟨_, rfl, fun K hK => ?_⟩
                · skip
                  go_wp2_with fail
                  refine hK _ _ hW ?_
                  try simp only [Act.put, List.setIfInBounds_toArray, List.set]
                  refine wpAnyG_two (i := 6) (j := 8) (by kernel_rfl) ⟨_, rfl, fun K hK => ?_⟩ ⟨_, rfl, fun K hK => ?_⟩
                  · skip
                    go_wp2_with fail
                    refine hK _ _ hW ?_
                    try simp only [Act.put, List.setIfInBounds_toArray, List.set]
                    refine wpAnyG_one (i := 8) (by kernel_rfl) ⟨_, rfl, fun K hK => ?_⟩
                    obtain ⟨x0, x1, x2, x3⟩ := hB.cell
                    have y0 := hB.free 0
                    have y1 := hB.free 1
                    have y2 := hB.free 2
                    have y3 := hB.free 3
                    go_wp2_with fail
                    obtain ⟨g1, g2, g3⟩ := hB.put4 hW hbl (.int .i64 ka) (.slice pa1 la1 ma1) (.slice pa2 la2 ma2) (.slice pa3 la3 ma3)
                    refine hK _ _ g1 ?_
                    try simp only [Act.put, List.setIfInBounds_toArray, List.set]
                    have hA2 := ArrAt.mono (G := fun x => x ≠ bb) (w' := ((((wv17.setCell ⟨bb, 0, none⟩ (.int .i64 ka)).setCell ⟨bb, 1, none⟩ (.slice pa1 la1 ma1)).setCell ⟨bb, 2, none⟩ (.slice pa2 la2 ma2)).setCell ⟨bb, 3, none⟩ (.slice pa3 la3 ma3))) (fun x hx _ => ⟨hx, g3 x hx⟩) _ _ _ _ _ hA
                    clear x0 x1 x2 x3 y0 y1 y2 y3 g3 hA hB hI hV
                    revert g1 g2 hA2
                    generalize ((((wv17.setCell ⟨bb, 0, none⟩ (.int .i64 ka)).setCell ⟨bb, 1, none⟩ (.slice pa1 la1 ma1)).setCell ⟨bb, 2, none⟩ (.slice pa2 la2 ma2)).setCell ⟨bb, 3, none⟩ (.slice pa3 la3 ma3)) = wv18
                    intro hW' hB hA
                    replace hW := hW'
                    clear hW'
                    refine wpAnyG_one (i := 9) (by kernel_rfl) ⟨_, rfl, fun K hK => ?_⟩
                    go_wp2_with fail
                    refine hK _ _ hW ?_
                    try simp only [Act.put, List.setIfInBounds_toArray, List.set]
                    refine wpAnyG_done (by kernel_rfl) ?_ _
                    refine OnlyN.mk ?_
                    go_wp2_with fail
                    go_meet
                    case rel => exact ⟨bb, _, _, _, _, rfl, rfl, hB, hA.mono' (fun _ _ _ => trivial), hW⟩
                  · skip
                    obtain ⟨x0, x1, x2, x3⟩ := hB.cell
                    have y0 := hB.free 0
                    have y1 := hB.free 1
                    have y2 := hB.free 2
                    have y3 := hB.free 3
                    go_wp2_with fail
                    obtain ⟨g1, g2, g3⟩ := hB.put4 hW hbl (.int .i64 ka) (.slice pa1 la1 ma1) (.slice pa2 la2 ma2) (.slice pa3 la3 ma3)
                    refine hK _ _ g1 ?_
                    try simp only [Act.put, List.setIfInBounds_toArray, List.set]
                    have hA2 := ArrAt.mono (G := fun x => x ≠ bb) (w' := ((((wv17.setCell ⟨bb, 0, none⟩ (.int .i64 ka)).setCell ⟨bb, 1, none⟩ (.slice pa1 la1 ma1)).setCell ⟨bb, 2, none⟩ (.slice pa2 la2 ma2)).setCell ⟨bb, 3, none⟩ (.slice pa3 la3 ma3))) (fun x hx _ => ⟨hx, g3 x hx⟩) _ _ _ _ _ hA
                    clear x0 x1 x2 x3 y0 y1 y2 y3 g3 hA hB hI hV
                    revert g1 g2 hA2
                    generalize ((((wv17.setCell ⟨bb, 0, none⟩ (.int .i64 ka)).setCell ⟨bb, 1, none⟩ (.slice pa1 la1 ma1)).setCell ⟨bb, 2, none⟩ (.slice pa2 la2 ma2)).setCell ⟨bb, 3, none⟩ (.slice pa3 la3 ma3)) = wv19
                    intro hW' hB hA
                    replace hW := hW'
                    clear hW'
                    refine wpAnyG_one (i := 6) (by kernel_rfl) ⟨_, rfl, fun K hK => ?_⟩
                    go_wp2_with fail
                    refine hK _ _ hW ?_
                    try simp only [Act.put, List.setIfInBounds_toArray, List.set]
                    refine wpAnyG_one (i := 9) (by kernel_rfl) ⟨_, rfl, fun K hK => ?_⟩
                    go_wp2_with fail
                    refine hK _ _ hW ?_
                    try simp only [Act.put, List.setIfInBounds_toArray, List.set]
                    refine wpAnyG_done (by kernel_rfl) ?_ _
                    refine OnlyN.mk ?_
                    go_wp2_with fail
                    go_meet
                    case rel => exact ⟨bb, _, _, _, _, rfl, rfl, hB, hA.mono' (fun _ _ _ => trivial), hW⟩
                · skip
                  go_wp2_with fail
                  refine hK _ _ hW ?_
                  try simp only [Act.put, List.setIfInBounds_toArray, List.set]
                  refine wpAnyG_one (i := 5) (by kernel_rfl) ⟨_, rfl, fun K hK => ?_⟩
                  go_wp2_with fail
                  refine hK _ _ hW ?_
                  try simp only [Act.put, List.setIfInBounds_toArray, List.set]
                  refine wpAnyG_one (i := 8) (by kernel_rfl) ⟨_, rfl, fun K hK => ?_⟩
                  obtain ⟨x0, x1, x2, x3⟩ := hB.cell
                  have y0 := hB.free 0
                  have y1 := hB.free 1
                  have y2 := hB.free 2
                  have y3 := hB.free 3
                  go_wp2_with fail
                  obtain ⟨g1, g2, g3⟩ := hB.put4 hW hbl (.int .i64 ka) (.slice pa1 la1 ma1) (.slice pa2 la2 ma2) (.slice pa3 la3 ma3)
                  refine hK _ _ g1 ?_
                  try simp only [Act.put, List.setIfInBounds_toArray, List.set]
                  have hA2 := ArrAt.mono (G := fun x => x ≠ bb) (w' := ((((wv17.setCell ⟨bb, 0, none⟩ (.int .i64 ka)).setCell ⟨bb, 1, none⟩ (.slice pa1 la1 ma1)).setCell ⟨bb, 2, none⟩ (.slice pa2 la2 ma2)).setCell ⟨bb, 3, none⟩ (.slice pa3 la3 ma3))) (fun x hx _ => ⟨hx, g3 x hx⟩) _ _ _ _ _ hA
                  clear x0 x1 x2 x3 y0 y1 y2 y3 g3 hA hB hI hV
                  revert g1 g2 hA2
                  generalize ((((wv17.setCell ⟨bb, 0, none⟩ (.int .i64 ka)).setCell ⟨bb, 1, none⟩ (.slice pa1 la1 ma1)).setCell ⟨bb, 2, none⟩ (.slice pa2 la2 ma2)).setCell ⟨bb, 3, none⟩ (.slice pa3 la3 ma3)) = wv20
                  intro hW' hB hA
                  replace hW := hW'
                  clear hW'
                  refine wpAnyG_one (i := 9) (by kernel_rfl) ⟨_, rfl, fun K hK => ?_⟩
                  go_wp2_with fail
                  refine hK _ _ hW ?_
                  try simp only [Act.put, List.setIfInBounds_toArray, List.set]
                  refine wpAnyG_done (by kernel_rfl) ?_ _
                  refine OnlyN.mk ?_
                  go_wp2_with fail
                  go_meet
                  case rel => exact ⟨bb, _, _, _, _, rfl, rfl, hB, hA.mono' (fun _ _ _ => trivial), hW⟩
            · skip
              go_wp2_with fail
              refine hK _ _ (hW.trans ((Ext.refl _).alloc (.cells #[.int .i64 0, .slice none 0 0, .slice none 0 0, .slice none 0 0] 26))) ?_
              try simp only [Act.put, List.setIfInBounds_toArray, List.set]
              have hB := box_new wv2 (.int .i64 0) (.slice none 0 0) (.slice none 0 0) (.slice none 0 0)
              have hbl := hW.lt
              have hX' := (Ext.refl wv2).alloc (.cells #[.int .i64 0, .slice none 0 0, .slice none 0 0, .slice none 0 0] 26)
              replace hW := hW.trans hX'
              replace hI := hI.ext hX'
              replace hV := hV.ext hX'
              generalize wv2.heap.size = bb at *
              generalize wv2.alloc (.cells #[.int .i64 0, .slice none 0 0, .slice none 0 0, .slice none 0 0] 26) = wv21 at *
              clear hX'
              refine wpAnyG_one (i := 3) (by kernel_rfl) ⟨_, rfl, fun K hK => ?_⟩
              go_wp2_with fail
              refine (axesAt _ _ _ _ _ _ _ _ _ _ _ _ _ _ wv21 ex3 hV (HM.out.ext hW)).mono ?_
              rintro e wv22 ⟨a0, a1, a2, a3, rfl, hA, hX⟩
              obtain ⟨ka, pa1, la1, ma1, pa2, la2, ma2, pa3, la3, ma3, rfl, rfl, rfl, rfl⟩ := hA.form
              have hA := hA.mono' (G := fun x => x ≠ bb) (fun x hx _ => by have := hB.lt; omega)
              replace hA := hA
              have hX' := hX
              replace hW := hW.trans hX'
              replace hI := hI.ext hX'
              replace hV := hV.ext hX'
              replace hB := hB.ext hX'
              clear hX'
              go_wp2_with fail
              refine hK _ _ hW ?_
              try simp only [Act.put, List.setIfInBounds_toArray, List.set]
              clear hX
              refine wpAnyG_one (i := 4) (by kernel_rfl) ⟨_, rfl, fun K hK => ?_⟩
              go_wp2_with fail
              refine hK _ _ hW ?_
              try simp only [Act.put, List.setIfInBounds_toArray, List.set]
              refine wpAnyG_two (i := 5) (j := 6) (by kernel_rfl) ⟨_, rfl, fun K hK => ?_⟩ ⟨_, rfl, fun K hK => ?_⟩
              · skip
                go_wp2_with fail
                refine hK _ _ hW ?_
                try simp only [Act.put, List.setIfInBounds_toArray, List.set]
                refine wpAnyG_two (i := 6) (j := 8) (by kernel_rfl) ⟨_, rfl, fun K hK => ?_⟩ ⟨_, rfl, fun K hK => ?_⟩
                · skip
                  go_wp2_with fail
                  refine hK _ _ hW ?_
                  try simp only [Act.put, List.setIfInBounds_toArray, List.set]
                  refine wpAnyG_one (i := 8) (by kernel_rfl) ⟨_, rfl, fun K hK => ?_⟩
                  obtain ⟨x0, x1, x2, x3⟩ := hB.cell
                  have y0 := hB.free 0
                  have y1 := hB.free 1
                  have y2 := hB.free 2
                  have y3 := hB.free 3
                  go_wp2_with fail
                  obtain ⟨g1, g2, g3⟩ := hB.put4 hW hbl (.int .i64 ka) (.slice pa1 la1 ma1) (.slice pa2 la2 ma2) (.slice pa3 la3 ma3)
                  refine hK _ _ g1 ?_
                  try simp only [Act.put, List.setIfInBounds_toArray, List.set]
                  have hA2 := ArrAt.mono (G := fun x => x ≠ bb) (w' := ((((wv22.setCell ⟨bb, 0, none⟩ (.int .i64 ka)).setCell ⟨bb, 1, none⟩ (.slice pa1 la1 ma1)).setCell ⟨bb, 2, none⟩ (.slice pa2 la2 ma2)).setCell ⟨bb, 3, none⟩ (.slice pa3 la3 ma3))) (fun x hx _ => ⟨hx, g3 x hx⟩) _ _ _ _ _ hA
                  clear x0 x1 x2 x3 y0 y1 y2 y3 g3 hA hB hI hV
                  revert g1 g2 hA2
                  generalize ((((wv22.setCell ⟨bb, 0, none⟩ (.int .i64 ka)).setCell ⟨bb, 1, none⟩ (.slice pa1 la1 ma1)).setCell ⟨bb, 2, none⟩ (.slice pa2 la2 ma2)).setCell ⟨bb, 3, none⟩ (.slice pa3 la3 ma3)) = wv23
                  intro hW' hB hA
                  replace hW := hW'
                  clear hW'
                  refine wpAnyG_one (i := 9) (by kernel_rfl) ⟨_, rfl, fun K hK => ?_⟩
                  go_wp2_with fail
                  refine hK _ _ hW ?_
                  try simp only [Act.put, List.setIfInBounds_toArray, List.set]
                  refine wpAnyG_done (by kernel_rfl) ?_ _
                  refine OnlyN.mk ?_
                  go_wp2_with fail
                  go_meet
                  case rel => exact ⟨bb, _, _, _, _, rfl, rfl, hB, hA.mono' (fun _ _ _ => trivial), hW⟩
                · skip
                  obtain ⟨x0, x1, x2, x3⟩ := hB.cell
                  have y0 := hB.free 0
                  have y1 := hB.free 1
                  have y2 := hB.free 2
                  have y3 := hB.free 3
                  go_wp2_with fail
                  obtain ⟨g1, g2, g3⟩ := hB.put4 hW hbl (.int .i64 ka) (.slice pa1 la1 ma1) (.slice pa2 la2 ma2) (.slice pa3 la3 ma3)
                  refine hK _ _ g1 ?_
                  try simp only [Act.put, List.setIfInBounds_toArray, List.set]
                  have hA2 := ArrAt.mono (G := fun x => x ≠ bb) (w' := ((((wv22.setCell ⟨bb, 0, none⟩ (.int .i64 ka)).setCell ⟨bb, 1, none⟩ (.slice pa1 la1 ma1)).setCell ⟨bb, 2, none⟩ (.slice pa2 la2 ma2)).setCell ⟨bb, 3, none⟩ (.slice pa3 la3 ma3))) (fun x hx _ => ⟨hx, g3 x hx⟩) _ _ _ _ _ hA
                  clear x0 x1 x2 x3 y0 y1 y2 y3 g3 hA hB hI hV
                  revert g1 g2 hA2
                  generalize ((((wv22.setCell ⟨bb, 0, none⟩ (.int .i64 ka)).setCell ⟨bb, 1, none⟩ (.slice pa1 la1 ma1)).setCell ⟨bb, 2, none⟩ (.slice pa2 la2 ma2)).setCell ⟨bb, 3, none⟩ (.slice pa3 la3 ma3)) = wv24
                  intro hW' hB hA
                  replace hW := hW'
                  clear hW'
                  refine wpAnyG_one (i := 6) (by kernel_rfl) ⟨_, rfl, fun K hK => ?_⟩
                  go_wp2_with fail
                  refine hK _ _ hW ?_
                  try simp only [Act.put, List.setIfInBounds_toArray, List.set]
                  refine wpAnyG_one (i := 9) (by kernel_rfl) ⟨_, rfl, fun K hK => ?_⟩
                  go_wp2_with fail
                  refine hK _ _ hW ?_
                  try simp only [Act.put, List.setIfInBounds_toArray, List.set]
                  refine wpAnyG_done (by kernel_rfl) ?_ _
                  refine OnlyN.mk ?_
                  go_wp2_with fail
                  go_meet
                  case rel => exact ⟨bb, _, _, _, _, rfl, rfl, hB, hA.mono' (fun _ _ _ => trivial), hW⟩
              · skip
                go_wp2_with fail
                refine hK _ _ hW ?_
                try simp only [Act.put, List.setIfInBounds_toArray, List.set]
                refine wpAnyG_one (i := 5) (by kernel_rfl) ⟨_, rfl, fun K hK => ?_⟩
                go_wp2_with fail
                refine hK _ _ hW ?_
                try simp only [Act.put, List.setIfInBounds_toArray, List.set]
                refine wpAnyG_one (i := 8) (by kernel_rfl) ⟨_, rfl, fun K hK => ?_⟩
                obtain ⟨x0, x1, x2, x3⟩ := hB.cell
                have y0 := hB.free 0
                have y1 := hB.free 1
                have y2 := hB.free 2
                have y3 := hB.free 3
                go_wp2_with fail
                obtain ⟨g1, g2, g3⟩ := hB.put4 hW hbl (.int .i64 ka) (.slice pa1 la1 ma1) (.slice pa2 la2 ma2) (.slice pa3 la3 ma3)
                refine hK _ _ g1 ?_
                try simp only [Act.put, List.setIfInBounds_toArray, List.set]
                have hA2 := ArrAt.mono (G := fun x => x ≠ bb) (w' := ((((wv22.setCell ⟨bb, 0, none⟩ (.int .i64 ka)).setCell ⟨bb, 1, none⟩ (.slice pa1 la1 ma1)).setCell ⟨bb, 2, none⟩ (.slice pa2 la2 ma2)).setCell ⟨bb, 3, none⟩ (.slice pa3 la3 ma3))) (fun x hx _ => ⟨hx, g3 x hx⟩) _ _ _ _ _ hA
                clear x0 x1 x2 x3 y0 y1 y2 y3 g3 hA hB hI hV
                revert g1 g2 hA2
                generalize ((((wv22.setCell ⟨bb, 0, none⟩ (.int .i64 ka)).setCell ⟨bb, 1, none⟩ (.slice pa1 la1 ma1)).setCell ⟨bb, 2, none⟩ (.slice pa2 la2 ma2)).setCell ⟨bb, 3, none⟩ (.slice pa3 la3 ma3)) = wv25
                intro hW' hB hA
                replace hW := hW'
                clear hW'
                refine wpAnyG_one (i := 9) (by kernel_rfl) ⟨_, rfl, fun K hK => ?_⟩
                go_wp2_with fail
                refine hK _ _ hW ?_
                try simp only [Act.put, List.setIfInBounds_toArray, List.set]
                refine wpAnyG_done (by kernel_rfl) ?_ _
                refine OnlyN.mk ?_
                go_wp2_with fail
                go_meet
                case rel => exact ⟨bb, _, _, _, _, rfl, rfl, hB, hA.mono' (fun _ _ _ => trivial), hW⟩
          · skip
            go_wp2_with fail
            refine hK _ _ (hW.trans ((Ext.refl _).alloc (.cells #[.int .i64 0, .slice none 0 0, .slice none 0 0, .slice none 0 0] 26))) ?_
            try simp only [Act.put, List.setIfInBounds_toArray, List.set]
            have hB := box_new wv1 (.int .i64 0) (.slice none 0 0) (.slice none 0 0) (.slice none 0 0)
            have hbl := hW.lt
            have hX' := (Ext.refl wv1).alloc (.cells #[.int .i64 0, .slice none 0 0, .slice none 0 0, .slice none 0 0] 26)
            replace hW := hW.trans hX'
            replace hI := hI.ext hX'
            generalize wv1.heap.size = bb at *
            generalize wv1.alloc (.cells #[.int .i64 0, .slice none 0 0, .slice none 0 0, .slice none 0 0] 26) = wv26 at *
            clear hX'
            refine wpAnyG_one (i := 1) (by kernel_rfl) ⟨_, rfl, fun K hK => ?_⟩
            go_wp2_with fail
            refine (vec_any _ _ 2 [0, 2] wv26 hI ⟨by decide, by decide, by decide⟩).mono ?_
            rintro e wv27 ⟨v0, v1, v2, v3, rfl, hV, hX⟩
            have hX' := hX
            replace hW := hW.trans hX'
            replace hI := hI.ext hX'
            replace hB := hB.ext hX'
            clear hX'
            go_wp2_with fail
            refine hK _ _ hW ?_
            try simp only [Act.put, List.setIfInBounds_toArray, List.set]
            clear hX
            refine wpAnyG_one (i := 3) (by kernel_rfl) ⟨_, rfl, fun K hK => ?_⟩
            go_wp2_with fail
            refine (axesAt _ _ _ _ _ _ _ _ _ _ _ _ _ _ wv27 ex3 hV (HM.out.ext hW)).mono ?_
            rintro e wv28 ⟨a0, a1, a2, a3, rfl, hA, hX⟩
            obtain ⟨ka, pa1, la1, ma1, pa2, la2, ma2, pa3, la3, ma3, rfl, rfl, rfl, rfl⟩ := hA.form
            have hA := hA.mono' (G := fun x => x ≠ bb) (fun x hx _ => by have := hB.lt; omega)
            replace hA := hA
            have hX' := hX
            replace hW := hW.trans hX'
            replace hI := hI.ext hX'
            replace hB := hB.ext hX'
            replace hV := hV.ext hX'
            clear hX'
            go_wp2_with fail
            refine hK _ _ hW ?_
            try simp only [Act.put, List.setIfInBounds_toArray, List.set]
            clear hX
            refine wpAnyG_one (i := 4) (by kernel_rfl) ⟨_, rfl, fun K hK => ?_⟩
            go_wp2_with fail
            refine hK _ _ hW ?_
            try simp only [Act.put, List.setIfInBounds_toArray, List.set]
            refine wpAnyG_two (i := 5) (j := 6) (by kernel_rfl) ⟨_, rfl, fun K hK => ?_⟩ ⟨_, rfl, fun K hK => ?_⟩
            · skip
              go_wp2_with fail
              refine hK _ _ hW ?_
              try simp only [Act.put, List.setIfInBounds_toArray, List.set]
              refine wpAnyG_two (i := 6) (j := 8) (by kernel_rfl) ⟨_, rfl, fun K hK => ?_⟩ ⟨_, rfl, fun K hK => ?_⟩
              · skip
                go_wp2_with fail
                refine hK _ _ hW ?_
                try simp only [Act.put, List.setIfInBounds_toArray, List.set]
                refine wpAnyG_one (i := 8) (by kernel_rfl) ⟨_, rfl, fun K hK => ?_⟩
                obtain ⟨x0, x1, x2, x3⟩ := hB.cell
                have y0 := hB.free 0
                have y1 := hB.free 1
                have y2 := hB.free 2
                have y3 := hB.free 3
                go_wp2_with fail
                obtain ⟨g1, g2, g3⟩ := hB.put4 hW hbl (.int .i64 ka) (.slice pa1 la1 ma1) (.slice pa2 la2 ma2) (.slice pa3 la3 ma3)
                refine hK _ _ g1 ?_
                try simp only [Act.put, List.setIfInBounds_toArray, List.set]
                have hA2 := ArrAt.mono (G := fun x => x ≠ bb) (w' := ((((wv28.setCell ⟨bb, 0, none⟩ (.int .i64 ka)).setCell ⟨bb, 1, none⟩ (.slice pa1 la1 ma1)).setCell ⟨bb, 2, none⟩ (.slice pa2 la2 ma2)).setCell ⟨bb, 3, none⟩ (.slice pa3 la3 ma3))) (fun x hx _ => ⟨hx, g3 x hx⟩) _ _ _ _ _ hA
                clear x0 x1 x2 x3 y0 y1 y2 y3 g3 hA hB hI hV
                revert g1 g2 hA2
                generalize ((((wv28.setCell ⟨bb, 0, none⟩ (.int .i64 ka)).setCell ⟨bb, 1, none⟩ (.slice pa1 la1 ma1)).setCell ⟨bb, 2, none⟩ (.slice pa2 la2 ma2)).setCell ⟨bb, 3, none⟩ (.slice pa3 la3 ma3)) = wv29
                intro hW' hB hA
                replace hW := hW'
                clear hW'
                refine wpAnyG_one (i := 9) (by kernel_rfl) ⟨_, rfl, fun K hK => ?_⟩
                go_wp2_with fail
                refine hK _ _ hW ?_
                try simp only [Act.put, List.setIfInBounds_toArray, List.set]
                refine wpAnyG_done (by kernel_rfl) ?_ _
                refine OnlyN.mk ?_
                go_wp2_with fail
                go_meet
                case rel => exact ⟨bb, _, _, _, _, rfl, rfl, hB, hA.mono' (fun _ _ _ => trivial), hW⟩
              · skip
                obtain ⟨x0, x1, x2, x3⟩ := hB.cell
                have y0 := hB.free 0
                have y1 := hB.free 1
                have y2 := hB.free 2
                have y3 := hB.free 3
                go_wp2_with fail
                obtain ⟨g1, g2, g3⟩ := hB.put4 hW hbl (.int .i64 ka) (.slice pa1 la1 ma1) (.slice pa2 la2 ma2) (.slice pa3 la3 ma3)
                refine hK _ _ g1 ?_
                try simp only [Act.put, List.setIfInBounds_toArray, List.set]
                have hA2 := ArrAt.mono (G := fun x => x ≠ bb) (w' := ((((wv28.setCell ⟨bb, 0, none⟩ (.int .i64 ka)).setCell ⟨bb, 1, none⟩ (.slice pa1 la1 ma1)).setCell ⟨bb, 2, none⟩ (.slice pa2 la2 ma2)).setCell ⟨bb, 3, none⟩ (.slice pa3 la3 ma3))) (fun x hx _ => ⟨hx, g3 x hx⟩) _ _ _ _ _ hA
                clear x0 x1 x2 x3 y0 y1 y2 y3 g3 hA hB hI hV
                revert g1 g2 hA2
                generalize ((((wv28.setCell ⟨bb, 0, none⟩ (.int .i64 ka)).setCell ⟨bb, 1, none⟩ (.slice pa1 la1 ma1)).setCell ⟨bb, 2, none⟩ (.slice pa2 la2 ma2)).setCell ⟨bb, 3, none⟩ (.slice pa3 la3 ma3)) = wv30
                intro hW' hB hA
                replace hW := hW'
                clear hW'
                refine wpAnyG_one (i := 6) (by kernel_rfl) ⟨_, rfl, fun K hK => ?_⟩
                go_wp2_with fail
                refine hK _ _ hW ?_
                try simp only [Act.put, List.setIfInBounds_toArray, List.set]
                refine wpAnyG_one (i := 9) (by kernel_rfl) ⟨_, rfl, fun K hK => ?_⟩
                go_wp2_with fail
                refine hK _ _ hW ?_
                try simp only [Act.put, List.setIfInBounds_toArray, List.set]
                refine wpAnyG_done (by kernel_rfl) ?_ _
                refine OnlyN.mk ?_
                go_wp2_with fail
                go_meet
                case rel => exact ⟨bb, _, _, _, _, rfl, rfl, hB, hA.mono' (fun _ _ _ => trivial), hW⟩
            · skip
              go_wp2_with fail
              refine hK _ _ hW ?_
              try simp only [Act.put, List.setIfInBounds_toArray, List.set]
              refine wpAnyG_one (i := 5) (by kernel_rfl) ⟨_, rfl, fun K hK => ?_⟩
              go_wp2_with fail
              refine hK _ _ hW ?_
              try simp only [Act.put, List.setIfInBounds_toArray, List.set]
              refine wpAnyG_one (i := 8) (by kernel_rfl) ⟨_, rfl, fun K hK => ?_⟩
              obtain ⟨x0, x1, x2, x3⟩ := hB.cell
              have y0 := hB.free 0
              have y1 := hB.free 1
              have y2 := hB.free 2
              have y3 := hB.free 3
              go_wp2_with fail
              obtain ⟨g1, g2, g3⟩ := hB.put4 hW hbl (.int .i64 ka) (.slice pa1 la1 ma1) (.slice pa2 la2 ma2) (.slice pa3 la3 ma3)
              refine hK _ _ g1 ?_
              try simp only [Act.put, List.setIfInBounds_toArray, List.set]
              have hA2 := ArrAt.mono (G := fun x => x ≠ bb) (w' := ((((wv28.setCell ⟨bb, 0, none⟩ (.int .i64 ka)).setCell ⟨bb, 1, none⟩ (.slice pa1 la1 ma1)).setCell ⟨bb, 2, none⟩ (.slice pa2 la2 ma2)).setCell ⟨bb, 3, none⟩ (.slice pa3 la3 ma3))) (fun x hx _ => ⟨hx, g3 x hx⟩) _ _ _ _ _ hA
              clear x0 x1 x2 x3 y0 y1 y2 y3 g3 hA hB hI hV
              revert g1 g2 hA2
              generalize ((((wv28.setCell ⟨bb, 0, none⟩ (.int .i64 ka)).setCell ⟨bb, 1, none⟩ (.slice pa1 la1 ma1)).setCell ⟨bb, 2, none⟩ (.slice pa2 la2 ma2)).setCell ⟨bb, 3, none⟩ (.slice pa3 la3 ma3)) = wv31
              intro hW' hB hA
              replace hW := hW'
              clear hW'
              refine wpAnyG_one (i := 9) (by kernel_rfl) ⟨_, rfl, fun K hK => ?_⟩
              go_wp2_with fail
              refine hK _ _ hW ?_
              try simp only [Act.put, List.setIfInBounds_toArray, List.set]
              refine wpAnyG_done (by kernel_rfl) ?_ _
              refine OnlyN.mk ?_
              go_wp2_with fail
              go_meet
              case rel => exact ⟨bb, _, _, _, _, rfl, rfl, hB, hA.mono' (fun _ _ _ => trivial), hW⟩
        · skip
          go_wp2_with fail
          refine hK _ _ (hW.trans ((Ext.refl _).alloc (.cells #[.int .i64 0, .slice none 0 0, .slice none 0 0, .slice none 0 0] 26))) ?_
          try simp only [Act.put, List.setIfInBounds_toArray, List.set]
          have hB := box_new wv0 (.int .i64 0) (.slice none 0 0) (.slice none 0 0) (.slice none 0 0)
          have hbl := hW.lt
          have hX' := (Ext.refl wv0).alloc (.cells #[.int .i64 0, .slice none 0 0, .slice none 0 0, .slice none 0 0] 26)
          replace hW := hW.trans hX'
          generalize wv0.heap.size = bb at *
          generalize wv0.alloc (.cells #[.int .i64 0, .slice none 0 0, .slice none 0 0, .slice none 0 0] 26) = wv32 at *
          clear hX'
          refine wpAnyG_one (i := 0) (by kernel_rfl) ⟨_, rfl, fun K hK => ?_⟩
          go_wp2_with fail
          refine hK _ _ (hW.trans ((Ext.refl _).alloc (.cells #[.int .i64 0, .int .i64 2] 3))) ?_
          try simp only [Act.put, List.setIfInBounds_toArray, List.set]
          have hI := (rowI_new wv32 [0, 2]).ints (by decide)
          change IntsAt _ (wv32.alloc (.cells #[.int .i64 0, .int .i64 2] 3)) _ _ at hI
          have hX' := (Ext.refl wv32).alloc (.cells #[.int .i64 0, .int .i64 2] 3)
          replace hW := hW.trans hX'
          replace hB := hB.ext hX'
          generalize wv32.alloc (.cells #[.int .i64 0, .int .i64 2] 3) = wv33 at *
          clear hX'
          refine wpAnyG_one (i := 1) (by kernel_rfl) ⟨_, rfl, fun K hK => ?_⟩
          go_wp2_with fail
          refine (vec_any _ _ 2 [0, 2] wv33 hI ⟨by decide, by decide, by decide⟩).mono ?_
          rintro e wv34 ⟨v0, v1, v2, v3, rfl, hV, hX⟩
          have hX' := hX
          replace hW := hW.trans hX'
          replace hB := hB.ext hX'
          replace hI := hI.ext hX'
          clear hX'
          go_wp2_with fail
          refine hK _ _ hW ?_
          try simp only [Act.put, List.setIfInBounds_toArray, List.set]
          clear hX
          refine wpAnyG_one (i := 3) (by kernel_rfl) ⟨_, rfl, fun K hK => ?_⟩
          go_wp2_with fail
          refine (axesAt _ _ _ _ _ _ _ _ _ _ _ _ _ _ wv34 ex3 hV (HM.out.ext hW)).mono ?_
          rintro e wv35 ⟨a0, a1, a2, a3, rfl, hA, hX⟩
          obtain ⟨ka, pa1, la1, ma1, pa2, la2, ma2, pa3, la3, ma3, rfl, rfl, rfl, rfl⟩ := hA.form
          have hA := hA.mono' (G := fun x => x ≠ bb) (fun x hx _ => by have := hB.lt; omega)
          replace hA := hA
          have hX' := hX
          replace hW := hW.trans hX'
          replace hB := hB.ext hX'
          replace hI := hI.ext hX'
          replace hV := hV.ext hX'
          clear hX'
          go_wp2_with fail
          refine hK _ _ hW ?_
          try simp only [Act.put, List.setIfInBounds_toArray, List.set]
          clear hX
          refine wpAnyG_one (i := 4) (by kernel_rfl) ⟨_, rfl, fun K hK => ?_⟩
          go_wp2_with fail
          refine hK _ _ hW ?_
          try simp only [Act.put, List.setIfInBounds_toArray, List.set]
          refine wpAnyG_two (i := 5) (j := 6) (by kernel_rfl) ⟨_, rfl, fun K hK => ?_⟩ ⟨_, rfl, fun K hK => ?_⟩
          · skip
            go_wp2_with fail
            refine hK _ _ hW ?_
            try simp only [Act.put, List.setIfInBounds_toArray, List.set]
            refine wpAnyG_two (i := 6) (j := 8) (by kernel_rfl) ⟨_, rfl, fun K hK => ?_⟩ ⟨_, rfl, fun K hK => ?_⟩
            · skip
              go_wp2_with fail
              refine hK _ _ hW ?_
              try simp only [Act.put, List.setIfInBounds_toArray, List.set]
              refine wpAnyG_one (i := 8) (by kernel_rfl) ⟨_, rfl, fun K hK => ?_⟩
              obtain ⟨x0, x1, x2, x3⟩ := hB.cell
              have y0 := hB.free 0
              have y1 := hB.free 1
              have y2 := hB.free 2
              have y3 := hB.free 3
              go_wp2_with fail
              obtain ⟨g1, g2, g3⟩ := hB.put4 hW hbl (.int .i64 ka) (.slice pa1 la1 ma1) (.slice pa2 la2 ma2) (.slice pa3 la3 ma3)
              refine hK _ _ g1 ?_
              try simp only [Act.put, List.setIfInBounds_toArray, List.set]
              have hA2 := ArrAt.mono (G := fun x => x ≠ bb) (w' := ((((wv35.setCell ⟨bb, 0, none⟩ (.int .i64 ka)).setCell ⟨bb, 1, none⟩ (.slice pa1 la1 ma1)).setCell ⟨bb, 2, none⟩ (.slice pa2 la2 ma2)).setCell ⟨bb, 3, none⟩ (.slice pa3 la3 ma3))) (fun x hx _ => ⟨hx, g3 x hx⟩) _ _ _ _ _ hA
              clear x0 x1 x2 x3 y0 y1 y2 y3 g3 hA hB hI hV
              revert g1 g2 hA2
              generalize ((((wv35.setCell ⟨bb, 0, none⟩ (.int .i64 ka)).setCell ⟨bb, 1, none⟩ (.slice pa1 la1 ma1)).setCell ⟨bb, 2, none⟩ (.slice pa2 la2 ma2)).setCell ⟨bb, 3, none⟩ (.slice pa3 la3 ma3)) = wv36
              intro hW' hB hA
              replace hW := hW'
              clear hW'
              refine wpAnyG_one (i := 9) (by kernel_rfl) ⟨_, rfl, fun K hK => ?_⟩
              go_wp2_with fail
              refine hK _ _ hW ?_
              try simp only [Act.put, List.setIfInBounds_toArray, List.set]
              refine wpAnyG_done (by kernel_rfl) ?_ _
              refine OnlyN.mk ?_
              go_wp2_with fail
              go_meet
              case rel => exact ⟨bb, _, _, _, _, rfl, rfl, hB, hA.mono' (fun _ _ _ => trivial), hW⟩
            · skip
              obtain ⟨x0, x1, x2, x3⟩ := hB.cell
              have y0 := hB.free 0
              have y1 := hB.free 1
              have y2 := hB.free 2
              have y3 := hB.free 3
              go_wp2_with fail
              obtain ⟨g1, g2, g3⟩ := hB.put4 hW hbl (.int .i64 ka) (.slice pa1 la1 ma1) (.slice pa2 la2 ma2) (.slice pa3 la3 ma3)
              refine hK _ _ g1 ?_
              try simp only [Act.put, List.setIfInBounds_toArray, List.set]
              have hA2 := ArrAt.mono (G := fun x => x ≠ bb) (w' := ((((wv35.setCell ⟨bb, 0, none⟩ (.int .i64 ka)).setCell ⟨bb, 1, none⟩ (.slice pa1 la1 ma1)).setCell ⟨bb, 2, none⟩ (.slice pa2 la2 ma2)).setCell ⟨bb, 3, none⟩ (.slice pa3 la3 ma3))) (fun x hx _ => ⟨hx, g3 x hx⟩) _ _ _ _ _ hA
              clear x0 x1 x2 x3 y0 y1 y2 y3 g3 hA hB hI hV
              revert g1 g2 hA2
              generalize ((((wv35.setCell ⟨bb, 0, none⟩ (.int .i64 ka)).setCell ⟨bb, 1, none⟩ (.slice pa1 la1 ma1)).setCell ⟨bb, 2, none⟩ (.slice pa2 la2 ma2)).setCell ⟨bb, 3, none⟩ (.slice pa3 la3 ma3)) = wv37
              intro hW' hB hA
              replace hW := hW'
              clear hW'
              refine wpAnyG_one (i := 6) (by kernel_rfl) ⟨_, rfl, fun K hK => ?_⟩
              go_wp2_with fail
              refine hK _ _ hW ?_
              try simp only [Act.put, List.setIfInBounds_toArray, List.set]
              refine wpAnyG_one (i := 9) (by kernel_rfl) ⟨_, rfl, fun K hK => ?_⟩
              go_wp2_with fail
              refine hK _ _ hW ?_
              try simp only [Act.put, List.setIfInBounds_toArray, List.set]
              refine wpAnyG_done (by kernel_rfl) ?_ _
              refine OnlyN.mk ?_
              go_wp2_with fail
              go_meet
              case rel => exact ⟨bb, _, _, _, _, rfl, rfl, hB, hA.mono' (fun _ _ _ => trivial), hW⟩
          · skip
            go_wp2_with fail
            refine hK _ _ hW ?_
            try simp only [Act.put, List.setIfInBounds_toArray, List.set]
            refine wpAnyG_one (i := 5) (by kernel_rfl) ⟨_, rfl, fun K hK => ?_⟩
            go_wp2_with fail
            refine hK _ _ hW ?_
            try simp only [Act.put, List.setIfInBounds_toArray, List.set]
            refine wpAnyG_one (i := 8) (by kernel_rfl) ⟨_, rfl, fun K hK => ?_⟩
            obtain ⟨x0, x1, x2, x3⟩ := hB.cell
            have y0 := hB.free 0
            have y1 := hB.free 1
            have y2 := hB.free 2
            have y3 := hB.free 3
            go_wp2_with fail
            obtain ⟨g1, g2, g3⟩ := hB.put4 hW hbl (.int .i64 ka) (.slice pa1 la1 ma1) (.slice pa2 la2 ma2) (.slice pa3 la3 ma3)
            refine hK _ _ g1 ?_
            try simp only [Act.put, List.setIfInBounds_toArray, List.set]
            have hA2 := ArrAt.mono (G := fun x => x ≠ bb) (w' := ((((wv35.setCell ⟨bb, 0, none⟩ (.int .i64 ka)).setCell ⟨bb, 1, none⟩ (.slice pa1 la1 ma1)).setCell ⟨bb, 2, none⟩ (.slice pa2 la2 ma2)).setCell ⟨bb, 3, none⟩ (.slice pa3 la3 ma3))) (fun x hx _ => ⟨hx, g3 x hx⟩) _ _ _ _ _ hA
            clear x0 x1 x2 x3 y0 y1 y2 y3 g3 hA hB hI hV
            revert g1 g2 hA2
            generalize ((((wv35.setCell ⟨bb, 0, none⟩ (.int .i64 ka)).setCell ⟨bb, 1, none⟩ (.slice pa1 la1 ma1)).setCell ⟨bb, 2, none⟩ (.slice pa2 la2 ma2)).setCell ⟨bb, 3, none⟩ (.slice pa3 la3 ma3)) = wv38
            intro hW' hB hA
            replace hW := hW'
            clear hW'
            refine wpAnyG_one (i := 9) (by kernel_rfl) ⟨_, rfl, fun K hK => ?_⟩
            go_wp2_with fail
            refine hK _ _ hW ?_
            try simp only [Act.put, List.setIfInBounds_toArray, List.set]
            refine wpAnyG_done (by kernel_rfl) ?_ _
            refine OnlyN.mk ?_
            go_wp2_with fail
            go_meet
            case rel => exact ⟨bb, _, _, _, _, rfl, rfl, hB, hA.mono' (fun _ _ _ => trivial), hW⟩
      case rest =>
        obtain ⟨bx2, y0, y1, y2, y3, rfl, rfl, hB, hA, hE⟩ := hcut
        obtain ⟨kx2, px2, lx2, nx2, qx2, mx2, ox2, rx2, sx2, tx2, rfl, rfl, rfl, rfl⟩ := hA.form
        replace HM := Lib.hid (HM.out.ext hE)
        replace HMB := Lib.hid (HMB.out.ext hE)
        replace HB2 := Lib.hid (HB2.out.ext hE)
        replace HA2 := Lib.hid (HA2.out.ext hE)
        replace hE1 := hE1.trans hE
        clear hB hA hE
        generalize wc = wb4 at *
        go_wp2_with fail
        have hE0 := hE1
        obtain ⟨m0, m1, m2, m3⟩ := HMB.out.cell
        refine wp_region_g0 [0] 23 #[true, false, false, false, false, false, false, false, false, false, false, false, false, false, false, false, false, false, false, false, false, false, false, false] (fun w' => Ext wb4 w') (by kernel_rfl) (by kernel_rfl) ((Ext.refl _).drew) ?_
        refine wpHead_cons (v := ?_) rfl (by rfl) (fun w' hS => ?_) ?_
        rotate_left
        · have g0 := hS.cell m0
          have g1 := hS.cell m1
          have g2 := hS.cell m2
          have g3 := hS.cell m3
          go_simp
          try with_reducible rfl
        try simp only [Act.put, List.setIfInBounds_toArray, List.set]
        unfold wpHead
        have hW : Ext wb4 wb4.drew := (Ext.refl _).drew
        generalize wb4.drew = wv0 at hW ⊢
        clear m0 m1 m2 m3
        refine wpAnyG_two (i := 1) (j := 2) (by kernel_rfl) ⟨_, rfl, fun K hK => ?_⟩ ⟨_, rfl, fun K hK => ?_⟩
        · skip
          go_wp2_with fail
          refine (revAt _ _ _ _ _ _ _ wv0 ex4 (HM.out.ext hW)).mono ?_
          rintro e wv1 ⟨r0, r1, r2, r3, rfl, hR, hX⟩
          have hX' := hX
          replace hW := hW.trans hX'
          clear hX'
          go_wp2_with fail
          refine hK _ _ hW ?_
          try simp only [Act.put, List.setIfInBounds_toArray, List.set]
          clear hX
          refine wpAnyG_one (i := 2) (by kernel_rfl) ⟨_, rfl, fun K hK => ?_⟩
          go_wp2_with fail
          refine hK _ _ (hW.trans ((Ext.refl _).alloc (.cells #[.int .i64 1, .int .i64 4, .int .i64 2, .int .i64 5, .int .i64 3, .int .i64 6] 3))) ?_
          try simp only [Act.put, List.setIfInBounds_toArray, List.set]
          have hI := (rowI_new wv1 [1, 4, 2, 5, 3, 6]).ints (by decide)
          change IntsAt _ (wv1.alloc (.cells #[.int .i64 1, .int .i64 4, .int .i64 2, .int .i64 5, .int .i64 3, .int .i64 6] 3)) _ _ at hI
          have hX' := (Ext.refl wv1).alloc (.cells #[.int .i64 1, .int .i64 4, .int .i64 2, .int .i64 5, .int .i64 3, .int .i64 6] 3)
          replace hW := hW.trans hX'
          replace hR := hR.ext hX'
          generalize wv1.alloc (.cells #[.int .i64 1, .int .i64 4, .int .i64 2, .int .i64 5, .int .i64 3, .int .i64 6] 3) = wv2 at *
          clear hX'
          refine wpAnyG_one (i := 3) (by kernel_rfl) ⟨_, rfl, fun K hK => ?_⟩
          go_wp2_with fail
          refine (mat_any _ _ 6 [1, 4, 2, 5, 3, 6] 3 2 wv2 hI ⟨by decide, by decide, by decide⟩ (by omega) (by omega)).mono ?_
          rintro e wv3 ⟨t0, t1, t2, t3, rfl, hT, hX⟩
          have hX' := hX
          replace hW := hW.trans hX'
          replace hR := hR.ext hX'
          replace hI := hI.ext hX'
          clear hX'
          go_wp2_with fail
          refine hK _ _ hW ?_
          try simp only [Act.put, List.setIfInBounds_toArray, List.set]
          clear hX
          refine wpAnyG_one (i := 4) (by kernel_rfl) ⟨_, rfl, fun K hK => ?_⟩
          go_wp2_with fail
          refine (sameAt _ _ _ _ _ _ _ _ _ _ _ wv3 hR hT).mono ?_
          rintro e wv4 ⟨rfl, hX⟩
          have hX' := hX
          replace hW := hW.trans hX'
          replace hR := hR.ext hX'
          replace hI := hI.ext hX'
          replace hT := hT.ext hX'
          clear hX'
          go_wp2_with fail
          refine hK _ _ hW ?_
          try simp only [Act.put, List.setIfInBounds_toArray, List.set]
          clear hX
          refine wpAnyG_one (i := 5) (by kernel_rfl) ⟨_, rfl, fun K hK => ?_⟩
          go_wp2_with fail
          refine hK _ _ hW ?_
          try simp only [Act.put, List.setIfInBounds_toArray, List.set]
          refine wpAnyG_one (i := 6) (by kernel_rfl) ⟨_, rfl, fun K hK => ?_⟩
          go_wp2_with fail
          refine hK _ _ hW ?_
          try simp only [Act.put, List.setIfInBounds_toArray, List.set]
          refine wpAnyG_one (i := 7) (by kernel_rfl) ⟨_, rfl, fun K hK => ?_⟩
          go_wp2_with fail
          refine hK _ _ hW ?_
          try simp only [Act.put, List.setIfInBounds_toArray, List.set]
          refine wpAnyG_one (i := 8) (by kernel_rfl) ⟨_, rfl, fun K hK => ?_⟩
          go_wp2_with fail
          refine hK _ _ hW ?_
          try simp only [Act.put, List.setIfInBounds_toArray, List.set]
          refine wpAnyG_one (i := 9) (by kernel_rfl) ⟨_, rfl, fun K hK => ?_⟩
          go_wp2_with fail
          refine hK _ _ hW ?_
          try simp only [Act.put, List.setIfInBounds_toArray, List.set]
          refine wpAnyG_two (i := 10) (j := 11) (by kernel_rfl) ⟨_, rfl, fun K hK => ?_⟩ ⟨_, rfl, fun K hK => ?_⟩
          · skip
            obtain ⟨z0, z1, z2, z3⟩ := (HB2.out.ext hW).cell
            go_wp2_with fail
            refine hK _ _ hW ?_
            try simp only [Act.put, List.setIfInBounds_toArray, List.set]
            clear z0 z1 z2 z3
            refine wpAnyG_one (i := 11) (by kernel_rfl) ⟨_, rfl, fun K hK => ?_⟩
            go_wp2_with fail
            refine hK _ _ (hW.trans ((Ext.refl _).alloc (.cells #[.int .i64 1, .int .i64 5] 3))) ?_
            try simp only [Act.put, List.setIfInBounds_toArray, List.set]
            have hJ := (rowI_new wv4 [1, 5]).ints (by decide)
            change IntsAt _ (wv4.alloc (.cells #[.int .i64 1, .int .i64 5] 3)) _ _ at hJ
            have hX' := (Ext.refl wv4).alloc (.cells #[.int .i64 1, .int .i64 5] 3)
            replace hW := hW.trans hX'
            replace hR := hR.ext hX'
            replace hI := hI.ext hX'
            replace hT := hT.ext hX'
            generalize wv4.alloc (.cells #[.int .i64 1, .int .i64 5] 3) = wv5 at *
            clear hX'
            refine wpAnyG_one (i := 12) (by kernel_rfl) ⟨_, rfl, fun K hK => ?_⟩
            go_wp2_with fail
            refine (vec_any _ _ 2 [1, 5] wv5 hJ ⟨by decide, by decide, by decide⟩).mono ?_
            rintro e wv6 ⟨u0, u1, u2, u3, rfl, hU, hX⟩
            have hX' := hX
            replace hW := hW.trans hX'
            replace hR := hR.ext hX'
            replace hI := hI.ext hX'
            replace hT := hT.ext hX'
            replace hJ := hJ.ext hX'
            clear hX'
            go_wp2_with fail
            refine hK _ _ hW ?_
            try simp only [Act.put, List.setIfInBounds_toArray, List.set]
            clear hX
            refine wpAnyG_one (i := 13) (by kernel_rfl) ⟨_, rfl, fun K hK => ?_⟩
            go_wp2_with fail
            refine (sameAt _ _ _ _ _ _ _ _ _ _ _ wv6 (HA2.out.ext hW) hU).mono ?_
            rintro e wv7 ⟨rfl, hX⟩
            have hX' := hX
            replace hW := hW.trans hX'
            replace hR := hR.ext hX'
            replace hI := hI.ext hX'
            replace hT := hT.ext hX'
            replace hJ := hJ.ext hX'
            replace hU := hU.ext hX'
            clear hX'
            go_wp2_with fail
            refine hK _ _ hW ?_
            try simp only [Act.put, List.setIfInBounds_toArray, List.set]
            clear hX
            refine wpAnyG_one (i := 14) (by kernel_rfl) ⟨_, rfl, fun K hK => ?_⟩
            go_wp2_with fail
            refine hK _ _ hW ?_
            try simp only [Act.put, List.setIfInBounds_toArray, List.set]
            refine wpAnyG_one (i := 15) (by kernel_rfl) ⟨_, rfl, fun K hK => ?_⟩
            go_wp2_with fail
            refine hK _ _ hW ?_
            try simp only [Act.put, List.setIfInBounds_toArray, List.set]
            refine wpAnyG_one (i := 16) (by kernel_rfl) ⟨_, rfl, fun K hK => ?_⟩
            go_wp2_with fail
            refine hK _ _ hW ?_
            try simp only [Act.put, List.setIfInBounds_toArray, List.set]
            refine wpAnyG_one (i := 17) (by kernel_rfl) ⟨_, rfl, fun K hK => ?_⟩
            go_wp2_with fail
            refine hK _ _ hW ?_
            try simp only [Act.put, List.setIfInBounds_toArray, List.set]
            refine wpAnyG_one (i := 18) (by kernel_rfl) ⟨_, rfl, fun K hK => ?_⟩
            go_wp2_with fail
            refine hK _ _ hW ?_
            try simp only [Act.put, List.setIfInBounds_toArray, List.set]
            refine wpAnyG_one (i := 19) (by kernel_rfl) ⟨_, rfl, fun K hK => ?_⟩
            go_wp2_with fail
            refine hK _ _ hW ?_
            try simp only [Act.put, List.setIfInBounds_toArray, List.set]
            refine wpAnyG_one (i := 20) (by kernel_rfl) ⟨_, rfl, fun K hK => ?_⟩
            go_wp2_with fail
            refine hK _ _ hW ?_
            try simp only [Act.put, List.setIfInBounds_toArray, List.set]
            refine wpAnyG_one (i := 21) (by kernel_rfl) ⟨_, rfl, fun K hK => ?_⟩
            go_wp2_with fail
            refine hK _ _ hW ?_
            try simp only [Act.put, List.setIfInBounds_toArray, List.set]
            refine wpAnyG_one (i := 22) (by kernel_rfl) ⟨_, rfl, fun K hK => ?_⟩
            go_wp2_with fail
            refine hK _ _ hW ?_
            try simp only [Act.put, List.setIfInBounds_toArray, List.set]
            refine wpAnyG_one (i := 23) (by kernel_rfl) ⟨_, rfl, fun K hK => ?_⟩
            go_wp2_with fail
            refine hK _ _ hW ?_
            try simp only [Act.put, List.setIfInBounds_toArray, List.set]
            refine wpAnyG_done (by kernel_rfl) ?_ _
            refine OnlyN.mk ?_
            go_wp2_with fail
            go_ret
            exact ⟨rfl, hE0.trans hW⟩
          · skip
            go_wp2_with fail
            refine hK _ _ (hW.trans ((Ext.refl _).alloc (.cells #[.int .i64 1, .int .i64 5] 3))) ?_
            try simp only [Act.put, List.setIfInBounds_toArray, List.set]
            have hJ := (rowI_new wv4 [1, 5]).ints (by decide)
            change IntsAt _ (wv4.alloc (.cells #[.int .i64 1, .int .i64 5] 3)) _ _ at hJ
            have hX' := (Ext.refl wv4).alloc (.cells #[.int .i64 1, .int .i64 5] 3)
            replace hW := hW.trans hX'
            replace hR := hR.ext hX'
            replace hI := hI.ext hX'
            replace hT := hT.ext hX'
            generalize wv4.alloc (.cells #[.int .i64 1, .int .i64 5] 3) = wv8 at *
            clear hX'
            refine wpAnyG_two (i := 10) (j := 12) (by kernel_rfl) ⟨_, rfl, fun K hK => ?_⟩ ⟨_, rfl, fun K hK => ?_⟩
            · skip
              obtain ⟨z0, z1, z2, z3⟩ := (HB2.out.ext hW).cell
              go_wp2_with fail
              refine hK _ _ hW ?_
              try simp only [Act.put, List.setIfInBounds_toArray, List.set]
              clear z0 z1 z2 z3
              refine wpAnyG_one (i := 12) (by kernel_rfl) ⟨_, rfl, fun K hK => ?_⟩
              go_wp2_with fail
              refine (vec_any _ _ 2 [1, 5] wv8 hJ ⟨by decide, by decide, by decide⟩).mono ?_
              rintro e wv9 ⟨u0, u1, u2, u3, rfl, hU, hX⟩
              have hX' := hX
              replace hW := hW.trans hX'
              replace hR := hR.ext hX'
              replace hI := hI.ext hX'
              replace hT := hT.ext hX'
              replace hJ := hJ.ext hX'
              clear hX'
              go_wp2_with fail
              refine hK _ _ hW ?_
              try simp only [Act.put, List.setIfInBounds_toArray, List.set]
              clear hX
              refine wpAnyG_one (i := 13) (by kernel_rfl) ⟨_, rfl, fun K hK => ?_⟩
              go_wp2_with fail
              refine (sameAt _ _ _ _ _ _ _ _ _ _ _ wv9 (HA2.out.ext hW) hU).mono ?_
              rintro e wv10 ⟨rfl, hX⟩
              have hX' := hX
              replace hW := hW.trans hX'
              replace hR := hR.ext hX'
              replace hI := hI.ext hX'
              replace hT := hT.ext hX'
              replace hJ := hJ.ext hX'
              replace hU := hU.ext hX'
              clear hX'
              go_wp2_with fail
              refine hK _ _ hW ?_
              try simp only [Act.put, List.setIfInBounds_toArray, List.set]
              clear hX
              refine wpAnyG_one (i := 14) (by kernel_rfl) ⟨_, rfl, fun K hK => ?_⟩
              go_wp2_with fail
              refine hK _ _ hW ?_
              try simp only [Act.put, List.setIfInBounds_toArray, List.set]
              refine wpAnyG_one (i := 15) (by kernel_rfl) ⟨_, rfl, fun K hK => ?_⟩
              go_wp2_with fail
              refine hK _ _ hW ?_
              try simp only [Act.put, List.setIfInBounds_toArray, List.set]
              refine wpAnyG_one (i := 16) (by kernel_rfl) ⟨_, rfl, fun K hK => ?_⟩
              go_wp2_with fail
              refine hK _ _ hW ?_
              try simp only [Act.put, List.setIfInBounds_toArray, List.set]
              refine wpAnyG_one (i := 17) (by kernel_rfl) ⟨_, rfl, fun K hK => ?_⟩
              go_wp2_with fail
              refine hK _ _ hW ?_
              try simp only [Act.put, List.setIfInBounds_toArray, List.set]
              refine wpAnyG_one (i := 18) (by kernel_rfl) ⟨_, rfl, fun K hK => ?_⟩
              go_wp2_with fail
              refine hK _ _ hW ?_
              try simp only [Act.put, List.setIfInBounds_toArray, List.set]
              refine wpAnyG_one (i := 19) (by kernel_rfl) ⟨_, rfl, fun K hK => ?_⟩
              go_wp2_with fail
              refine hK _ _ hW ?_
              try simp only [Act.put, List.setIfInBounds_toArray, List.set]
              refine wpAnyG_one (i := 20) (by kernel_rfl) ⟨_, rfl, fun K hK => ?_⟩
              go_wp2_with fail
              refine hK _ _ hW ?_
              try simp only [Act.put, List.setIfInBounds_toArray, List.set]
              refine wpAnyG_one (i := 21) (by kernel_rfl) ⟨_, rfl, fun K hK => ?_⟩
              go_wp2_with fail
              refine hK _ _ hW ?_
              try simp only [Act.put, List.setIfInBounds_toArray, List.set]
              refine wpAnyG_one (i := 22) (by kernel_rfl) ⟨_, rfl, fun K hK => ?_⟩
              go_wp2_with fail
              refine hK _ _ hW ?_
              try simp only [Act.put, List.setIfInBounds_toArray, List.set]
              refine wpAnyG_one (i := 23) (by kernel_rfl) ⟨_, rfl, fun K hK => ?_⟩
              go_wp2_with fail
              refine hK _ _ hW ?_
              try simp only [Act.put, List.setIfInBounds_toArray, List.set]
              refine wpAnyG_done (by kernel_rfl) ?_ _
              refine OnlyN.mk ?_
              go_wp2_with fail
              go_ret
              exact ⟨rfl, hE0.trans hW⟩
            · skip
              go_wp2_with fail
              refine (vec_any _ _ 2 [1, 5] wv8 hJ ⟨by decide, by decide, by decide⟩).mono ?_
              rintro e wv11 ⟨u0, u1, u2, u3, rfl, hU, hX⟩
              have hX' := hX
              replace hW := hW.trans hX'
              replace hR := hR.ext hX'
              replace hI := hI.ext hX'
              replace hT := hT.ext hX'
              replace hJ := hJ.ext hX'
              clear hX'
              go_wp2_with fail
              refine hK _ _ hW ?_
              try simp only [Act.put, List.setIfInBounds_toArray, List.set]
              clear hX
              refine wpAnyG_one (i := 10) (by kernel_rfl) ⟨_, rfl, fun K hK => ?_⟩
              obtain ⟨z0, z1, z2, z3⟩ := (HB2.out.ext hW).cell
              go_wp2_with fail
              refine hK _ _ hW ?_
              try simp only [Act.put, List.setIfInBounds_toArray, List.set]
              clear z0 z1 z2 z3
              refine wpAnyG_one (i := 13) (by kernel_rfl) ⟨_, rfl, fun K hK => ?_⟩
              go_wp2_with fail
              refine (sameAt _ _ _ _ _ _ _ _ _ _ _ wv11 (HA2.out.ext hW) hU).mono ?_
              rintro e wv12 ⟨rfl, hX⟩
              have hX' := hX
              replace hW := hW.trans hX'
              replace hR := hR.ext hX'
              replace hI := hI.ext hX'
              replace hT := hT.ext hX'
              replace hJ := hJ.ext hX'
              replace hU := hU.ext hX'
              clear hX'
              go_wp2_with fail
              refine hK _ _ hW ?_
              try simp only [Act.put, List.setIfInBounds_toArray, List.set]
              clear hX
              refine wpAnyG_one (i := 14) (by kernel_rfl) ⟨_, rfl, fun K hK => ?_⟩
              go_wp2_with fail
              refine hK _ _ hW ?_
              try simp only [Act.put, List.setIfInBounds_toArray, List.set]
              refine wpAnyG_one (i := 15) (by kernel_rfl) ⟨_, rfl, fun K hK => ?_⟩
              go_wp2_with fail
              refine hK _ _ hW ?_
              try simp only [Act.put, List.setIfInBounds_toArray, List.set]
              refine wpAnyG_one (i := 16) (by kernel_rfl) ⟨_, rfl, fun K hK => ?_⟩
              go_wp2_with fail
              refine hK _ _ hW ?_
              try simp only [Act.put, List.setIfInBounds_toArray, List.set]
              refine wpAnyG_one (i := 17) (by kernel_rfl) ⟨_, rfl, fun K hK => ?_⟩
              go_wp2_with fail
              refine hK _ _ hW ?_
              try simp only [Act.put, List.setIfInBounds_toArray, List.set]
              refine wpAnyG_one (i := 18) (by kernel_rfl) ⟨_, rfl, fun K hK => ?_⟩
              go_wp2_with fail
              refine hK _ _ hW ?_
              try simp only [Act.put, List.setIfInBounds_toArray, List.set]
              refine wpAnyG_one (i := 19) (by kernel_rfl) ⟨_, rfl, fun K hK => ?_⟩
              go_wp2_with fail
              refine hK _ _ hW ?_
              try simp only [Act.put, List.setIfInBounds_toArray, List.set]
              refine wpAnyG_one (i := 20) (by kernel_rfl) ⟨_, rfl, fun K hK => ?_⟩
              go_wp2_with fail
              refine hK _ _ hW ?_
              try simp only [Act.put, List.setIfInBounds_toArray, List.set]
              refine wpAnyG_one (i := 21) (by kernel_rfl) ⟨_, rfl, fun K hK => ?_⟩
              go_wp2_with fail
              refine hK _ _ hW ?_
              try simp only [Act.put, List.setIfInBounds_toArray, List.set]
              refine wpAnyG_one (i := 22) (by kernel_rfl) ⟨_, rfl, fun K hK => ?_⟩
              go_wp2_with fail
              refine hK _ _ hW ?_
              try simp only [Act.put, List.setIfInBounds_toArray, List.set]
              refine wpAnyG_one (i := 23) (by kernel_rfl) ⟨_, rfl, fun K hK => ?_⟩
              go_wp2_with fail
              refine hK _ _ hW ?_
              try simp only [Act.put, List.setIfInBounds_toArray, List.set]
              refine wpAnyG_done (by kernel_rfl) ?_ _
              refine OnlyN.mk ?_
              go_wp2_with fail
              go_ret
              exact ⟨rfl, hE0.trans hW⟩
        · skip
          go_wp2_with fail
          refine hK _ _ (hW.trans ((Ext.refl _).alloc (.cells #[.int .i64 1, .int .i64 4, .int .i64 2, .int .i64 5, .int .i64 3, .int .i64 6] 3))) ?_
          try simp only [Act.put, List.setIfInBounds_toArray, List.set]
          have hI := (rowI_new wv0 [1, 4, 2, 5, 3, 6]).ints (by decide)
          change IntsAt _ (wv0.alloc (.cells #[.int .i64 1, .int .i64 4, .int .i64 2, .int .i64 5, .int .i64 3, .int .i64 6] 3)) _ _ at hI
          have hX' := (Ext.refl wv0).alloc (.cells #[.int .i64 1, .int .i64 4, .int .i64 2, .int .i64 5, .int .i64 3, .int .i64 6] 3)
          replace hW := hW.trans hX'
          generalize wv0.alloc (.cells #[.int .i64 1, .int .i64 4, .int .i64 2, .int .i64 5, .int .i64 3, .int .i64 6] 3) = wv13 at *
          clear hX'
          refine wpAnyG_one (i := 1) (by kernel_rfl) ⟨_, rfl, fun K hK => ?_⟩
          go_wp2_with fail
          refine (revAt _ _ _ _ _ _ _ wv13 ex4 (HM.out.ext hW)).mono ?_
          rintro e wv14 ⟨r0, r1, r2, r3, rfl, hR, hX⟩
          have hX' := hX
          replace hW := hW.trans hX'
          replace hI := hI.ext hX'
          clear hX'
          go_wp2_with fail
          refine hK _ _ hW ?_
          try simp only [Act.put, List.setIfInBounds_toArray, List.set]
          clear hX
          refine wpAnyG_one (i := 3) (by kernel_rfl) ⟨_, rfl, fun K hK => ?_⟩
          go_wp2_with fail
          refine (mat_any _ _ 6 [1, 4, 2, 5, 3, 6] 3 2 wv14 hI ⟨by decide, by decide, by decide⟩ (by omega) (by omega)).mono ?_
          rintro e wv15 ⟨t0, t1, t2, t3, rfl, hT, hX⟩
          have hX' := hX
          replace hW := hW.trans hX'
          replace hI := hI.ext hX'
          replace hR := hR.ext hX'
          clear hX'
          go_wp2_with fail
          refine hK _ _ hW ?_
          try simp only [Act.put, List.setIfInBounds_toArray, List.set]
          clear hX
          refine wpAnyG_one (i := 4) (by kernel_rfl) ⟨_, rfl, fun K hK => ?_⟩
          go_wp2_with fail
          refine (sameAt _ _ _ _ _ _ _ _ _ _ _ wv15 hR hT).mono ?_
          rintro e wv16 ⟨rfl, hX⟩
          have hX' := hX
          replace hW := hW.trans hX'
          replace hI := hI.ext hX'
          replace hR := hR.ext hX'
          replace hT := hT.ext hX'
          clear hX'
          go_wp2_with fail
          refine hK _ _ hW ?_
          try simp only [Act.put, List.setIfInBounds_toArray, List.set]
          clear hX
          refine wpAnyG_one (i := 5) (by kernel_rfl) ⟨_, rfl, fun K hK => ?_⟩
          go_wp2_with fail
          refine hK _ _ hW ?_
          try simp only [Act.put, List.setIfInBounds_toArray, List.set]
          refine wpAnyG_one (i := 6) (by kernel_rfl) ⟨_, rfl, fun K hK => ?_⟩
          go_wp2_with fail
          refine hK _ _ hW ?_
          try simp only [Act.put, List.setIfInBounds_toArray, List.set]
          refine wpAnyG_one (i := 7) (by kernel_rfl) ⟨_, rfl, fun K hK => ?_⟩
          go_wp2_with fail
          refine hK _ _ hW ?_
          try simp only [Act.put, List.setIfInBounds_toArray, List.set]
          refine wpAnyG_one (i := 8) (by kernel_rfl) ⟨_, rfl, fun K hK => ?_⟩
          go_wp2_with fail
          refine hK _ _ hW ?_
          try simp only [Act.put, List.setIfInBounds_toArray, List.set]
          refine wpAnyG_one (i := 9) (by kernel_rfl) ⟨_, rfl, fun K hK => ?_⟩
          go_wp2_with fail
          refine hK _ _ hW ?_
          try simp only [Act.put, List.setIfInBounds_toArray, List.set]
          refine wpAnyG_two (i := 10) (j := 11) (by kernel_rfl) ⟨_, rfl, fun K hK => ?_⟩ ⟨_, rfl, fun K hK => ?_⟩
          · skip
            obtain ⟨z0, z1, z2, z3⟩ := (HB2.out.ext hW).cell
            go_wp2_with fail
            refine hK _ _ hW ?_
            try simp only [Act.put, List.setIfInBounds_toArray, List.set]
            clear z0 z1 z2 z3
            refine wpAnyG_one (i := 11) (by kernel_rfl) ⟨_, rfl, fun K hK => ?_⟩
            go_wp2_with fail
            refine hK _ _ (hW.trans ((Ext.refl _).alloc (.cells #[.int .i64 1, .int .i64 5] 3))) ?_
            try simp only [Act.put, List.setIfInBounds_toArray, List.set]
            have hJ := (rowI_new wv16 [1, 5]).ints (by decide)
            change IntsAt _ (wv16.alloc (.cells #[.int .i64 1, .int .i64 5] 3)) _ _ at hJ
            have hX' := (Ext.refl wv16).alloc (.cells #[.int .i64 1, .int .i64 5] 3)
            replace hW := hW.trans hX'
            replace hI := hI.ext hX'
            replace hR := hR.ext hX'
            replace hT := hT.ext hX'
            generalize wv16.alloc (.cells #[.int .i64 1, .int .i64 5] 3) = wv17 at *
            clear hX'
            refine wpAnyG_one (i := 12) (by kernel_rfl) ⟨_, rfl, fun K hK => ?_⟩
            go_wp2_with fail
            refine (vec_any _ _ 2 [1, 5] wv17 hJ ⟨by decide, by decide, by decide⟩).mono ?_
            rintro e wv18 ⟨u0, u1, u2, u3, rfl, hU, hX⟩
            have hX' := hX
            replace hW := hW.trans hX'
            replace hI := hI.ext hX'
            replace hR := hR.ext hX'
            replace hT := hT.ext hX'
            replace hJ := hJ.ext hX'
            clear hX'
            go_wp2_with fail
            refine hK _ _ hW ?_
            try simp only [Act.put, List.setIfInBounds_toArray, List.set]
            clear hX
            refine wpAnyG_one (i := 13) (by kernel_rfl) ⟨_, rfl, fun K hK => ?_⟩
            go_wp2_with fail
            refine (sameAt _ _ _ _ _ _ _ _ _ _ _ wv18 (HA2.out.ext hW) hU).mono ?_
            rintro e wv19 ⟨rfl, hX⟩
            have hX' := hX
            replace hW := hW.trans hX'
            replace hI := hI.ext hX'
            replace hR := hR.ext hX'
            replace hT := hT.ext hX'
            replace hJ := hJ.ext hX'
            replace hU := hU.ext hX'
            clear hX'
            go_wp2_with fail
            refine hK _ _ hW ?_
            try simp only [Act.put, List.setIfInBounds_toArray, List.set]
            clear hX
            refine wpAnyG_one (i := 14) (by kernel_rfl) ⟨_, rfl, fun K hK => ?_⟩
            go_wp2_with fail
            refine hK _ _ hW ?_
            try simp only [Act.put, List.setIfInBounds_toArray, List.set]
            refine wpAnyG_one (i := 15) (by kernel_rfl) ⟨_, rfl, fun K hK => ?_⟩
            go_wp2_with fail
            refine hK _ _ hW ?_
            try simp only [Act.put, List.setIfInBounds_toArray, List.set]
            refine wpAnyG_one (i := 16) (by kernel_rfl) ⟨_, rfl, fun K hK => ?_⟩
            go_wp2_with fail
            refine hK _ _ hW ?_
            try simp only [Act.put, List.setIfInBounds_toArray, List.set]
            refine wpAnyG_one (i := 17) (by kernel_rfl) ⟨_, rfl, fun K hK => ?_⟩
            go_wp2_with fail
            refine hK _ _ hW ?_
            try simp only [Act.put, List.setIfInBounds_toArray, List.set]
            refine wpAnyG_one (i := 18) (by kernel_rfl) ⟨_, rfl, fun K hK => ?_⟩
            go_wp2_with fail
            refine hK _ _ hW ?_
            try simp only [Act.put, List.setIfInBounds_toArray, List.set]
            refine wpAnyG_one (i := 19) (by kernel_rfl) ⟨_, rfl, fun K hK => ?_⟩
            go_wp2_with fail
            refine hK _ _ hW ?_
            try simp only [Act.put, List.setIfInBounds_toArray, List.set]
            refine wpAnyG_one (i := 20) (by kernel_rfl) ⟨_, rfl, fun K hK => ?_⟩
            go_wp2_with fail
            refine hK _ _ hW ?_
            try simp only [Act.put, List.setIfInBounds_toArray, List.set]
            refine wpAnyG_one (i := 21) (by kernel_rfl) ⟨_, rfl, fun K hK => ?_⟩
            go_wp2_with fail
            refine hK _ _ hW ?_
            try simp only [Act.put, List.setIfInBounds_toArray, List.set]
            refine wpAnyG_one (i := 22) (by kernel_rfl) ⟨_, rfl, fun K hK => ?_⟩
            go_wp2_with fail
            refine hK _ _ hW ?_
            try simp only [Act.put, List.setIfInBounds_toArray, List.set]
            refine wpAnyG_one (i := 23) (by kernel_rfl) ⟨_, rfl, fun K hK => ?_⟩
            go_wp2_with fail
            refine hK _ _ hW ?_
            try simp only [Act.put, List.setIfInBounds_toArray, List.set]
            refine wpAnyG_done (by kernel_rfl) ?_ _
            refine OnlyN.mk ?_
            go_wp2_with fail
            go_ret
            exact ⟨rfl, hE0.trans hW⟩
          · skip
            go_wp2_with fail
            refine hK _ _ (hW.trans ((Ext.refl _).alloc (.cells #[.int .i64 1, .int .i64 5] 3))) ?_
            try simp only [Act.put, List.setIfInBounds_toArray, List.set]
            have hJ := (rowI_new wv16 [1, 5]).ints (by decide)
            change IntsAt _ (wv16.alloc (.cells #[.int .i64 1, .int .i64 5] 3)) _ _ at hJ
            have hX' := (Ext.refl wv16).alloc (.cells #[.int .i64 1, .int .i64 5] 3)
            replace hW := hW.trans hX'
            replace hI := hI.ext hX'
            replace hR := hR.ext hX'
            replace hT := hT.ext hX'
            generalize wv16.alloc (.cells #[.int .i64 1, .int .i64 5] 3) = wv20 at *
            clear hX'
            refine wpAnyG_two (i := 10) (j := 12) (by kernel_rfl) ⟨_, rfl, fun K hK => ?_⟩ ⟨_, rfl, fun K hK => ?_⟩
            · skip
              obtain ⟨z0, z1, z2, z3⟩ := (HB2.out.ext hW).cell
              go_wp2_with fail
              refine hK _ _ hW ?_
              try simp only [Act.put, List.setIfInBounds_toArray, List.set]
              clear z0 z1 z2 z3
              refine wpAnyG_one (i := 12) (by kernel_rfl) ⟨_, rfl, fun K hK => ?_⟩
              go_wp2_with fail
              refine (vec_any _ _ 2 [1, 5] wv20 hJ ⟨by decide, by decide, by decide⟩).mono ?_
              rintro e wv21 ⟨u0, u1, u2, u3, rfl, hU, hX⟩
              have hX' := hX
              replace hW := hW.trans hX'
              replace hI := hI.ext hX'
              replace hR := hR.ext hX'
              replace hT := hT.ext hX'
              replace hJ := hJ.ext hX'
              clear hX'
              go_wp2_with fail
              refine hK _ _ hW ?_
              try simp only [Act.put, List.setIfInBounds_toArray, List.set]
              clear hX
              refine wpAnyG_one (i := 13) (by kernel_rfl) ⟨_, rfl, fun K hK => ?_⟩
              go_wp2_with fail
              refine (sameAt _ _ _ _ _ _ _ _ _ _ _ wv21 (HA2.out.ext hW) hU).mono ?_
              rintro e wv22 ⟨rfl, hX⟩
              have hX' := hX
              replace hW := hW.trans hX'
              replace hI := hI.ext hX'
              replace hR := hR.ext hX'
              replace hT := hT.ext hX'
              replace hJ := hJ.ext hX'
              replace hU := hU.ext hX'
              clear hX'
              go_wp2_with fail
              refine hK _ _ hW ?_
              try simp only [Act.put, List.setIfInBounds_toArray, List.set]
              clear hX
              refine wpAnyG_one (i := 14) (by kernel_rfl) ⟨_, rfl, fun K hK => ?_⟩
              go_wp2_with fail
              refine hK _ _ hW ?_
              try simp only [Act.put, List.setIfInBounds_toArray, List.set]
              refine wpAnyG_one (i := 15) (by kernel_rfl) ⟨_, rfl, fun K hK => ?_⟩
              go_wp2_with fail
              refine hK _ _ hW ?_
              try simp only [Act.put, List.setIfInBounds_toArray, List.set]
              refine wpAnyG_one (i := 16) (by kernel_rfl) ⟨_, rfl, fun K hK => ?_⟩
              go_wp2_with fail
              refine hK _ _ hW ?_
              try simp only [Act.put, List.setIfInBounds_toArray, List.set]
              refine wpAnyG_one (i := 17) (by kernel_rfl) ⟨_, rfl, fun K hK => ?_⟩
              go_wp2_with fail
              refine hK _ _ hW ?_
              try simp only [Act.put, List.setIfInBounds_toArray, List.set]
              refine wpAnyG_one (i := 18) (by kernel_rfl) ⟨_, rfl, fun K hK => ?_⟩
              go_wp2_with fail
              refine hK _ _ hW ?_
              try simp only [Act.put, List.setIfInBounds_toArray, List.set]
              refine wpAnyG_one (i := 19) (by kernel_rfl) ⟨_, rfl, fun K hK => ?_⟩
              go_wp2_with fail
              refine hK _ _ hW ?_
              try simp only [Act.put, List.setIfInBounds_toArray, List.set]
              refine wpAnyG_one (i := 20) (by kernel_rfl) ⟨_, rfl, fun K hK => ?_⟩
              go_wp2_with fail
              refine hK _ _ hW ?_
              try simp only [Act.put, List.setIfInBounds_toArray, List.set]
              refine wpAnyG_one (i := 21) (by kernel_rfl) ⟨_, rfl, fun K hK => ?_⟩
              go_wp2_with fail
              refine hK _ _ hW ?_
              try simp only [Act.put, List.setIfInBounds_toArray, List.set]
              refine wpAnyG_one (i := 22) (by kernel_rfl) ⟨_, rfl, fun K hK => ?_⟩
              go_wp2_with fail
              refine hK _ _ hW ?_
              try simp only [Act.put, List.setIfInBounds_toArray, List.set]
              refine wpAnyG_one (i := 23) (by kernel_rfl) ⟨_, rfl, fun K hK => ?_⟩
              go_wp2_with fail
              refine hK _ _ hW ?_
              try simp only [Act.put, List.setIfInBounds_toArray, List.set]
              refine wpAnyG_done (by kernel_rfl) ?_ _
              refine OnlyN.mk ?_
              go_wp2_with fail
              go_ret
              exact ⟨rfl, hE0.trans hW⟩
            · skip
              go_wp2_with fail
              refine (vec_any _ _ 2 [1, 5] wv20 hJ ⟨by decide, by decide, by decide⟩).mono ?_
              rintro e wv23 ⟨u0, u1, u2, u3, rfl, hU, hX⟩
              have hX' := hX
              replace hW := hW.trans hX'
              replace hI := hI.ext hX'
              replace hR := hR.ext hX'
              replace hT := hT.ext hX'
              replace hJ := hJ.ext hX'
              clear hX'
              go_wp2_with fail
              refine hK _ _ hW ?_
              try simp only [Act.put, List.setIfInBounds_toArray, List.set]
              clear hX
              refine wpAnyG_one (i := 10) (by kernel_rfl) ⟨_, rfl, fun K hK => ?_⟩
              obtain ⟨z0, z1, z2, z3⟩ := (HB2.out.ext hW).cell
              go_wp2_with fail
              refine hK _ _ hW ?_
              try simp only [Act.put, List.setIfInBounds_toArray, List.set]
              clear z0 z1 z2 z3
              refine wpAnyG_one (i := 13) (by kernel_rfl) ⟨_, rfl, fun K hK => ?_⟩
              go_wp2_with fail
              refine (sameAt _ _ _ _ _ _ _ _ _ _ _ wv23 (HA2.out.ext hW) hU).mono ?_
              rintro e wv24 ⟨rfl, hX⟩
              have hX' := hX
              replace hW := hW.trans hX'
              replace hI := hI.ext hX'
              replace hR := hR.ext hX'
              replace hT := hT.ext hX'
              replace hJ := hJ.ext hX'
              replace hU := hU.ext hX'
              clear hX'
              go_wp2_with fail
              refine hK _ _ hW ?_
              try simp only [Act.put, List.setIfInBounds_toArray, List.set]
              clear hX
              refine wpAnyG_one (i := 14) (by kernel_rfl) ⟨_, rfl, fun K hK => ?_⟩
              go_wp2_with fail
              refine hK _ _ hW ?_
              try simp only [Act.put, List.setIfInBounds_toArray, List.set]
              refine wpAnyG_one (i := 15) (by kernel_rfl) ⟨_, rfl, fun K hK => ?_⟩
              go_wp2_with fail
              refine hK _ _ hW ?_
              try simp only [Act.put, List.setIfInBounds_toArray, List.set]
              refine wpAnyG_one (i := 16) (by kernel_rfl) ⟨_, rfl, fun K hK => ?_⟩
              go_wp2_with fail
              refine hK _ _ hW ?_
              try simp only [Act.put, List.setIfInBounds_toArray, List.set]
              refine wpAnyG_one (i := 17) (by kernel_rfl) ⟨_, rfl, fun K hK => ?_⟩
              go_wp2_with fail
              refine hK _ _ hW ?_
              try simp only [Act.put, List.setIfInBounds_toArray, List.set]
              refine wpAnyG_one (i := 18) (by kernel_rfl) ⟨_, rfl, fun K hK => ?_⟩
              go_wp2_with fail
              refine hK _ _ hW ?_
              try simp only [Act.put, List.setIfInBounds_toArray, List.set]
              refine wpAnyG_one (i := 19) (by kernel_rfl) ⟨_, rfl, fun K hK => ?_⟩
              go_wp2_with fail
              refine hK _ _ hW ?_
              try simp only [Act.put, List.setIfInBounds_toArray, List.set]
              refine wpAnyG_one (i := 20) (by kernel_rfl) ⟨_, rfl, fun K hK => ?_⟩
              go_wp2_with fail
              refine hK _ _ hW ?_
              try simp only [Act.put, List.setIfInBounds_toArray, List.set]
              refine wpAnyG_one (i := 21) (by kernel_rfl) ⟨_, rfl, fun K hK => ?_⟩
              go_wp2_with fail
              refine hK _ _ hW ?_
              try simp only [Act.put, List.setIfInBounds_toArray, List.set]
              refine wpAnyG_one (i := 22) (by kernel_rfl) ⟨_, rfl, fun K hK => ?_⟩
              go_wp2_with fail
              refine hK _ _ hW ?_
              try simp only [Act.put, List.setIfInBounds_toArray, List.set]
              refine wpAnyG_one (i := 23) (by kernel_rfl) ⟨_, rfl, fun K hK => ?_⟩
              go_wp2_with fail
              refine hK _ _ hW ?_
              try simp only [Act.put, List.setIfInBounds_toArray, List.set]
              refine wpAnyG_done (by kernel_rfl) ?_ _
              refine OnlyN.mk ?_
              go_wp2_with fail
              go_ret
              exact ⟨rfl, hE0.trans hW⟩
end Go.Proofs.Ytcmnlnamgnbemaa
