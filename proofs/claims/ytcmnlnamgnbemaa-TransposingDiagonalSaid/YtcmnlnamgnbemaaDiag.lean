/-
  THE WALK of law21.TransposingDiagonal. (Printed by gen_diag.py.)
-/
import Derived.Test.YtcmnlnamgnbemaaDiagLaw
namespace Go.Proofs.Ytcmnlnamgnbemaa
open Go.RowKit
set_option linter.unusedSimpArgs false
set_option linter.unusedVariables false

theorem and255 (a : Int) : 0 ≤ bits .and .i64 a 255 ∧ bits .and .i64 a 255 ≤ 255 := by
  have h : bits .and .i64 a 255 = IntKind.i64.wrap ((BitVec.ofInt 64 a &&& BitVec.ofInt 64 255).toNat : Int) := rfl
  have h2 : (BitVec.ofInt 64 255).toNat = 255 := by decide
  rw [h, BitVec.toNat_and, h2]
  have h3 : (BitVec.ofInt 64 a).toNat &&& 255 ≤ 255 := Nat.and_le_right
  generalize (BitVec.ofInt 64 a).toNat &&& 255 = q at *
  have hq : (q : Int) % 18446744073709551616 = q := by omega
  show 0 ≤ (if (true && decide ((q : Int) % 18446744073709551616 ≥ 9223372036854775808)) = true then (q : Int) % 18446744073709551616 - 18446744073709551616 else (q : Int) % 18446744073709551616) ∧ (if (true && decide ((q : Int) % 18446744073709551616 ≥ 9223372036854775808)) = true then (q : Int) % 18446744073709551616 - 18446744073709551616 else (q : Int) % 18446744073709551616) ≤ 255
  rw [hq, if_neg (by simp; omega)]
  omega

set_option maxRecDepth 100000 in
set_option maxHeartbeats 40000000 in
/-- law21.TransposingDiagonal. -/
theorem diagonal_any (x y s : Int) (w : World) (hx : 0 ≤ x ∧ x ≤ 255) (hy : 0 ≤ y ∧ y ≤ 255) (hs : -9223372036854775808 ≤ s ∧ s ≤ 9223372036854775807) :
    Calls Try.prog 9 #[.int .u8 x, .int .u8 y, .int .i64 s] w fun e w' => e = .returned (.bool true) ∧ Ext w w' := by
  obtain ⟨n, hn⟩ : ∃ n : Nat, x % 20 = (n : Int) := ⟨(x % 20).toNat, by omega⟩
  obtain ⟨m, hm⟩ : ∃ m : Nat, y % 20 = (m : Int) := ⟨(y % 20).toNat, by omega⟩
  have hn20 : n < 20 := by omega
  have hm20 : m < 20 := by omega
  have hxt : x.tmod 20 = (n : Int) := by rw [Int.tmod_eq_emod_of_nonneg hx.1]; exact hn
  have hyt : y.tmod 20 = (m : Int) := by rw [Int.tmod_eq_emod_of_nonneg hy.1]; exact hm
  clear hn hm
  have hnm : n * m ≤ 400 := by
    have := Nat.mul_le_mul (Nat.le_of_lt_succ hn20) (Nat.le_of_lt_succ hm20)
    omega
  go_enter Try.func9, Try.ntmps9
  obtain ⟨P, hP⟩ : ∃ P : Nat, (n : Int) * (m : Int) = (P : Int) := ⟨n * m, by simp⟩
  have hPn : P = n * m := by
    have h1 : ((n * m : Nat) : Int) = (P : Int) := by rw [Int.natCast_mul]; exact hP
    exact (Int.ofNat.inj h1).symm
  have hP4 : P ≤ 400 := by omega
  have HPN := Lib.hid hPn
  have hPm : (m : Int) * (n : Int) = (P : Int) := by rw [Int.mul_comm]; exact hP
  clear hPn hnm hPm
  go_wp2_with fail
  have hE0 : Ext w ((w.alloc (.cells #[.int .i64 n, .int .i64 m] 3)).alloc (.cells #[.int .i64 1, .slice (some ⟨w.heap.size, 0, none⟩) 2 2, .slice none 0 0, .slice none 0 0] 26)) := ((Ext.refl _).alloc _).alloc _
  have hI := rowI_new w [(n : Int), (m : Int)]
  have hB := box_new (w.alloc (.cells #[.int .i64 n, .int .i64 m] 3)) (.int .i64 1) (.slice (some ⟨w.heap.size, 0, none⟩) 2 2) (.slice none 0 0) (.slice none 0 0)
  replace hI := hI.ext ((Ext.refl _).alloc (.cells #[.int .i64 1, .slice (some ⟨w.heap.size, 0, none⟩) 2 2, .slice none 0 0, .slice none 0 0] 26))
  change RowI ((w.alloc (.cells #[.int .i64 n, .int .i64 m] 3)).alloc (.cells #[.int .i64 1, .slice (some ⟨w.heap.size, 0, none⟩) 2 2, .slice none 0 0, .slice none 0 0] 26)) _ _ at hI
  rw [World.size_alloc] at hB
  have hM : MkN w ((w.alloc (.cells #[.int .i64 n, .int .i64 m] 3)).alloc (.cells #[.int .i64 1, .slice (some ⟨w.heap.size, 0, none⟩) 2 2, .slice none 0 0, .slice none 0 0] 26)) (fun x => x = w.heap.size ∨ x = w.heap.size + 1) (w.heap.size + 1) 1 (.slice (some ⟨w.heap.size, 0, none⟩) 2 2) (.slice none 0 0) [] :=
    ⟨hE0, by omega, hB, .inr rfl, fun x hx => by rcases hx with rfl | rfl <;> (simp only [World.size_alloc]; omega), OwnI.nil _ _ _⟩
  generalize (w.alloc (.cells #[.int .i64 n, .int .i64 m] 3)).alloc (.cells #[.int .i64 1, .slice (some ⟨w.heap.size, 0, none⟩) 2 2, .slice none 0 0, .slice none 0 0] 26) = w1 at *
  have HI := Lib.hid hI
  have HM := Lib.hid hM
  clear hI hB hM hE0
  go_loopw [10] (fun i wr => ∃ (k : Nat) (v2 : Value) (l : List Int), k ≤ P ∧ i = .int .i64 k ∧ l.length = k ∧ RowI wr w.heap.size [(n : Int), (m : Int)] ∧ MkN w wr (fun x => x = w.heap.size ∨ x = w.heap.size + 1) (w.heap.size + 1) 1 (.slice (some ⟨w.heap.size, 0, none⟩) 2 2) v2 l ∧ Hid (∀ x ∈ l, 0 ≤ x ∧ x ≤ 255)) (fun i _ => P - (intOf i).toNat)
  case atStart => exact ⟨0, _, [], Nat.zero_le _, rfl, rfl, HI.out, HM.out, fun x hx => by cases hx⟩
  case round =>
    obtain ⟨k, v2, l, hk, rfl, hlk, hR, hM, H255⟩ := hrel
    clear HI HM
    subst hlk
    obtain ⟨b0, b1, b2, b3⟩ := hM.box.cell
    obtain ⟨pl, cl, rfl, _, hli⟩ := hM.on.ints
    have hf := hM.box.free 2
    by_cases hlt : l.length < P
    · have HD := Lib.hid hlt
      have h255 := and255 (s / 2 ^ (l.length % 32))
      have hE1 := hM.ext
      have hM1 := hM.next ((Ext.refl wr).alloc (.cells #[.int .i64 (bits .and .i64 (s / 2 ^ (l.length % 32)) 255)] 3))
      have hR1 := hR.ext ((Ext.refl wr).alloc (.cells #[.int .i64 (bits .and .i64 (s / 2 ^ (l.length % 32)) 255)] 3))
      have hc1 : (wr.alloc (.cells #[.int .i64 (bits .and .i64 (s / 2 ^ (l.length % 32)) 255)] 3)).cell? ⟨wr.heap.size, 0, none⟩ = some (.int .i64 (bits .and .i64 (s / 2 ^ (l.length % 32)) 255)) := by simp
      have H2 := Lib.hid h255
      clear h255
      go_wp2_with (at_builtin; refine wpList_append_int rfl _ _ rfl w.heap.size (fun x => x = w.heap.size ∨ x = w.heap.size + 1) (.slice pl l.length cl) l.length l (bits .and .i64 (s / 2 ^ (l.length % 32)) 255) rfl hM1.on ⟨wr.heap.size, 0, none⟩ 1 rfl hc1 hM1.xl (by have := H2.out; omega) (by omega) hM1.ext.lt ?_)
      intro g cap w8 hon8 hgrow _ _ _
      have h255 := H2.out
      generalize bits .and .i64 (s / 2 ^ (l.length % 32)) 255 = d at *
      obtain ⟨q1, q2, q3⟩ := hM1.grown hgrow
      obtain ⟨_, _, t2, _⟩ := q2.cell
      have tf := q2.free 2
      obtain ⟨hM8, hfar⟩ := hM1.stored (v2' := .slice (some ⟨g, 0, none⟩) (l.length + 1) cap) (n' := l ++ [d]) hgrow (by rw [List.length_append]; exact hon8)
      have hR8 := hR1.kept (hfar w.heap.size (.inl rfl) (by omega))
      have hl8 : Hid (∀ x ∈ l ++ [d], 0 ≤ x ∧ x ≤ 255) := by
        intro x hx
        rcases List.mem_append.1 hx with h | h
        · exact H255.out x h
        · rw [List.mem_singleton] at h; subst h; exact h255
      go_wp2_with fail
      go_roundw
      case rel => exact ⟨l.length + 1, _, l ++ [d], by omega, by go_num, by simp, hR8, hM8, hl8⟩
      case measure => simp [intOf]; omega
    · have hPl : l.length = P := by omega
      have HPL := Lib.hid hPl
      have hA := MkN.arr (G := fun x => x = w.heap.size) (s := [(n : Int), (m : Int)]) hM (by omega) ⟨_, _, rfl, ⟨by simp, by simp, by simp⟩, hR.ints (by
        intro x hx
        rcases List.mem_cons.1 hx with rfl | hx
        · omega
        · rw [List.mem_singleton] at hx; subst hx; omega)⟩
      have hE1 := hM.ext
      have HEX := Lib.hid (axes_diag n m hn20 hm20 l (by rw [HPL.out, HPN.out]) H255.out)
      have HMB := Lib.hid hM.box
      have HM := Lib.hid hA
      have HVI := Lib.hid hli
      clear hPl hA b0 b1 b2 b3 hf hM hR hli
      generalize wr = wb1 at *
      go_wp2_with fail
      go_cut [11, 12] (fun sa sb wx => ∃ (b : Nat) (a0 a1 a2 a3 : Value), sa = .pointer (some ⟨b, 0, none⟩) ∧ sb = .int .i64 0 ∧ Box4 wx b a0 a1 a2 a3 ∧ ArrAt (fun _ => True) wx (.mk 1 [((min n m : Nat) : Int)] (diag l m (min n m)) []) a0 a1 a2 a3 ∧ Ext wb1 wx)
      case first =>
        obtain ⟨m0, m1, m2, m3⟩ := HMB.out.cell
        refine wp_region_g0 [2] 9 #[false, false, true, false, false, false, false, false, false, false] (fun w' => Ext wb1 w') (by kernel_rfl) (by kernel_rfl) ((Ext.refl _).drew) ?_
        refine wpHead_cons (v := ?_) rfl (by rfl) (fun w' hS => ?_) ?_
        rotate_left
        · have g0 := hS.cell m0
          have g1 := hS.cell m1
          have g2 := hS.cell m2
          have g3 := hS.cell m3
          go_simp
          try with_reducible rfl
        try simp only [Act.put, List.setIfInBounds_toArray, List.set]
        unfold wpHead
        have hW : Ext wb1 wb1.drew := (Ext.refl _).drew
        generalize wb1.drew = wv0 at hW ⊢
        clear m0 m1 m2 m3
        refine wpAnyG_two (i := 0) (j := 7) (by kernel_rfl) ⟨_, rfl, fun K hK => ?_⟩ ⟨_, rfl, fun K hK => ?_⟩
        · skip
          go_wp2_with fail
          refine hK _ _ (hW.trans ((Ext.refl _).alloc (.cells #[.int .i64 0, .int .i64 0] 3))) ?_
          try simp only [Act.put, List.setIfInBounds_toArray, List.set]
          have hI := (rowI_new wv0 [0, 0]).ints (by decide)
          change IntsAt _ (wv0.alloc (.cells #[.int .i64 0, .int .i64 0] 3)) _ _ at hI
          have hX' := (Ext.refl wv0).alloc (.cells #[.int .i64 0, .int .i64 0] 3)
          replace hW := hW.trans hX'
          generalize wv0.alloc (.cells #[.int .i64 0, .int .i64 0] 3) = wv1 at *
          clear hX'
          refine wpAnyG_two (i := 1) (j := 7) (by kernel_rfl) ⟨_, rfl, fun K hK => ?_⟩ ⟨_, rfl, fun K hK => ?_⟩
          · skip
            go_wp2_with fail
            refine (vec_any _ _ 2 [0, 0] wv1 hI ⟨by decide, by decide, by decide⟩).mono ?_
            rintro e wv2 ⟨v0, v1, v2, v3, rfl, hV, hX⟩
            have hX' := hX
            replace hW := hW.trans hX'
            replace hI := hI.ext hX'
            clear hX'
            go_wp2_with fail
            refine hK _ _ hW ?_
            try simp only [Act.put, List.setIfInBounds_toArray, List.set]
            clear hX
            refine wpAnyG_two (i := 3) (j := 7) (by kernel_rfl) ⟨_, rfl, fun K hK => ?_⟩ ⟨_, rfl, fun K hK => ?_⟩
            · skip
              go_wp2_with fail
              refine (axesAt _ _ _ _ _ _ _ _ _ _ _ _ _ _ wv2 HEX.out hV (HM.out.ext hW)).mono ?_
              rintro e wv3 ⟨a0, a1, a2, a3, rfl, hA, hX⟩
              obtain ⟨ka, pa1, la1, ma1, pa2, la2, ma2, pa3, la3, ma3, rfl, rfl, rfl, rfl⟩ := hA.form
              have hX' := hX
              replace hW := hW.trans hX'
              replace hI := hI.ext hX'
              replace hV := hV.ext hX'
              clear hX'
              go_wp2_with fail
              refine hK _ _ hW ?_
              try simp only [Act.put, List.setIfInBounds_toArray, List.set]
              clear hX
              refine wpAnyG_two (i := 4) (j := 7) (by kernel_rfl) ⟨_, rfl, fun K hK => ?_⟩ ⟨_, rfl, fun K hK => ?_⟩
              · skip
                go_wp2_with fail
                refine hK _ _ hW ?_
                try simp only [Act.put, List.setIfInBounds_toArray, List.set]
                refine wpAnyG_three (i := 5) (j := 6) (k := 7) (by kernel_rfl) ⟨_, rfl, fun K hK => ?_⟩ ⟨_, rfl, fun K hK => ?_⟩ ⟨_, rfl, fun K hK => ?_⟩
                · skip
                  go_wp2_with fail
                  refine hK _ _ hW ?_
                  try simp only [Act.put, List.setIfInBounds_toArray, List.set]
                  refine wpAnyG_two (i := 6) (j := 7) (by kernel_rfl) ⟨_, rfl, fun K hK => ?_⟩ ⟨_, rfl, fun K hK => ?_⟩
                  · skip
                    go_wp2_with fail
                    refine hK _ _ hW ?_
                    try simp only [Act.put, List.setIfInBounds_toArray, List.set]
                    refine wpAnyG_one (i := 7) (by kernel_rfl) ⟨_, rfl, fun K hK => ?_⟩
                    go_wp2_with fail
                    refine hK _ _ (hW.trans ((Ext.refl _).alloc (.cells #[.int .i64 0, .slice none 0 0, .slice none 0 0, .slice none 0 0] 26))) ?_
                    try simp only [Act.put, List.setIfInBounds_toArray, List.set]
                    have hB := box_new wv3 (.int .i64 0) (.slice none 0 0) (.slice none 0 0) (.slice none 0 0)
                    have hbl := hW.lt
                    replace hA := hA.mono' (G := fun x => x ≠ wv3.heap.size) (fun x _ hx => by omega)
                    have hX' := (Ext.refl wv3).alloc (.cells #[.int .i64 0, .slice none 0 0, .slice none 0 0, .slice none 0 0] 26)
                    replace hW := hW.trans hX'
                    replace hI := hI.ext hX'
                    replace hV := hV.ext hX'
                    replace hA := hA.ext hX'
                    generalize wv3.heap.size = bb at *
                    generalize wv3.alloc (.cells #[.int .i64 0, .slice none 0 0, .slice none 0 0, .slice none 0 0] 26) = wv4 at *
                    clear hX'
                    refine wpAnyG_one (i := 8) (by kernel_rfl) ⟨_, rfl, fun K hK => ?_⟩
                    obtain ⟨x0, x1, x2, x3⟩ := hB.cell
                    have y0 := hB.free 0
                    have y1 := hB.free 1
                    have y2 := hB.free 2
                    have y3 := hB.free 3
                    go_wp2_with fail
                    obtain ⟨g1, g2, g3⟩ := hB.put4 hW hbl (.int .i64 ka) (.slice pa1 la1 ma1) (.slice pa2 la2 ma2) (.slice pa3 la3 ma3)
                    refine hK _ _ g1 ?_
                    try simp only [Act.put, List.setIfInBounds_toArray, List.set]
                    have hA2 := ArrAt.mono (G := fun x => x ≠ bb) (w' := ((((wv4.setCell ⟨bb, 0, none⟩ (.int .i64 ka)).setCell ⟨bb, 1, none⟩ (.slice pa1 la1 ma1)).setCell ⟨bb, 2, none⟩ (.slice pa2 la2 ma2)).setCell ⟨bb, 3, none⟩ (.slice pa3 la3 ma3))) (fun x hx _ => ⟨hx, g3 x hx⟩) _ _ _ _ _ hA
                    clear x0 x1 x2 x3 y0 y1 y2 y3 g3 hA hB hI hV
                    revert g1 g2 hA2
                    generalize ((((wv4.setCell ⟨bb, 0, none⟩ (.int .i64 ka)).setCell ⟨bb, 1, none⟩ (.slice pa1 la1 ma1)).setCell ⟨bb, 2, none⟩ (.slice pa2 la2 ma2)).setCell ⟨bb, 3, none⟩ (.slice pa3 la3 ma3)) = wv5
                    intro hW' hB hA
                    replace hW := hW'
                    clear hW'
                    refine wpAnyG_one (i := 9) (by kernel_rfl) ⟨_, rfl, fun K hK => ?_⟩
                    go_wp2_with fail
                    refine hK _ _ hW ?_
                    try simp only [Act.put, List.setIfInBounds_toArray, List.set]
                    refine wpAnyG_done (by kernel_rfl) ?_ _
                    refine OnlyN.mk ?_
                    go_wp2_with fail
                    go_meet
                    case rel => exact ⟨bb, _, _, _, _, rfl, rfl, hB, hA.mono' (fun _ _ _ => trivial), hW⟩
                  · skip
                    go_wp2_with fail
                    refine hK _ _ (hW.trans ((Ext.refl _).alloc (.cells #[.int .i64 0, .slice none 0 0, .slice none 0 0, .slice none 0 0] 26))) ?_
                    try simp only [Act.put, List.setIfInBounds_toArray, List.set]
                    have hB := box_new wv3 (.int .i64 0) (.slice none 0 0) (.slice none 0 0) (.slice none 0 0)
                    have hbl := hW.lt
                    replace hA := hA.mono' (G := fun x => x ≠ wv3.heap.size) (fun x _ hx => by omega)
                    have hX' := (Ext.refl wv3).alloc (.cells #[.int .i64 0, .slice none 0 0, .slice none 0 0, .slice none 0 0] 26)
                    replace hW := hW.trans hX'
                    replace hI := hI.ext hX'
                    replace hV := hV.ext hX'
                    replace hA := hA.ext hX'
                    generalize wv3.heap.size = bb at *
                    generalize wv3.alloc (.cells #[.int .i64 0, .slice none 0 0, .slice none 0 0, .slice none 0 0] 26) = wv6 at *
                    clear hX'
                    refine wpAnyG_two (i := 6) (j := 8) (by kernel_rfl) ⟨_, rfl, fun K hK => ?_⟩ ⟨_, rfl, fun K hK => ?_⟩
                    · skip
                      go_wp2_with fail
                      refine hK _ _ hW ?_
                      try simp only [Act.put, List.setIfInBounds_toArray, List.set]
                      refine wpAnyG_one (i := 8) (by kernel_rfl) ⟨_, rfl, fun K hK => ?_⟩
                      obtain ⟨x0, x1, x2, x3⟩ := hB.cell
                      have y0 := hB.free 0
                      have y1 := hB.free 1
                      have y2 := hB.free 2
                      have y3 := hB.free 3
                      go_wp2_with fail
                      obtain ⟨g1, g2, g3⟩ := hB.put4 hW hbl (.int .i64 ka) (.slice pa1 la1 ma1) (.slice pa2 la2 ma2) (.slice pa3 la3 ma3)
                      refine hK _ _ g1 ?_
                      try simp only [Act.put, List.setIfInBounds_toArray, List.set]
                      have hA2 := ArrAt.mono (G := fun x => x ≠ bb) (w' := ((((wv6.setCell ⟨bb, 0, none⟩ (.int .i64 ka)).setCell ⟨bb, 1, none⟩ (.slice pa1 la1 ma1)).setCell ⟨bb, 2, none⟩ (.slice pa2 la2 ma2)).setCell ⟨bb, 3, none⟩ (.slice pa3 la3 ma3))) (fun x hx _ => ⟨hx, g3 x hx⟩) _ _ _ _ _ hA
                      clear x0 x1 x2 x3 y0 y1 y2 y3 g3 hA hB hI hV
                      revert g1 g2 hA2
                      generalize ((((wv6.setCell ⟨bb, 0, none⟩ (.int .i64 ka)).setCell ⟨bb, 1, none⟩ (.slice pa1 la1 ma1)).setCell ⟨bb, 2, none⟩ (.slice pa2 la2 ma2)).setCell ⟨bb, 3, none⟩ (.slice pa3 la3 ma3)) = wv7
                      intro hW' hB hA
                      replace hW := hW'
                      clear hW'
                      refine wpAnyG_one (i := 9) (by kernel_rfl) ⟨_, rfl, fun K hK => ?_⟩
                      go_wp2_with fail
                      refine hK _ _ hW ?_
                      try simp only [Act.put, List.setIfInBounds_toArray, List.set]
                      refine wpAnyG_done (by kernel_rfl) ?_ _
                      refine OnlyN.mk ?_
                      go_wp2_with fail
                      go_meet
                      case rel => exact ⟨bb, _, _, _, _, rfl, rfl, hB, hA.mono' (fun _ _ _ => trivial), hW⟩
                    · skip
                      obtain ⟨x0, x1, x2, x3⟩ := hB.cell
                      have y0 := hB.free 0
                      have y1 := hB.free 1
                      have y2 := hB.free 2
                      have y3 := hB.free 3
                      go_wp2_with fail
                      obtain ⟨g1, g2, g3⟩ := hB.put4 hW hbl (.int .i64 ka) (.slice pa1 la1 ma1) (.slice pa2 la2 ma2) (.slice pa3 la3 ma3)
                      refine hK _ _ g1 ?_
                      try simp only [Act.put, List.setIfInBounds_toArray, List.set]
                      have hA2 := ArrAt.mono (G := fun x => x ≠ bb) (w' := ((((wv6.setCell ⟨bb, 0, none⟩ (.int .i64 ka)).setCell ⟨bb, 1, none⟩ (.slice pa1 la1 ma1)).setCell ⟨bb, 2, none⟩ (.slice pa2 la2 ma2)).setCell ⟨bb, 3, none⟩ (.slice pa3 la3 ma3))) (fun x hx _ => ⟨hx, g3 x hx⟩) _ _ _ _ _ hA
                      clear x0 x1 x2 x3 y0 y1 y2 y3 g3 hA hB hI hV
                      revert g1 g2 hA2
                      generalize ((((wv6.setCell ⟨bb, 0, none⟩ (.int .i64 ka)).setCell ⟨bb, 1, none⟩ (.slice pa1 la1 ma1)).setCell ⟨bb, 2, none⟩ (.slice pa2 la2 ma2)).setCell ⟨bb, 3, none⟩ (.slice pa3 la3 ma3)) = wv8
                      intro hW' hB hA
                      replace hW := hW'
                      clear hW'
                      refine wpAnyG_one (i := 6) (by kernel_rfl) ⟨_, rfl, fun K hK => ?_⟩
                      go_wp2_with fail
                      refine hK _ _ hW ?_
                      try simp only [Act.put, List.setIfInBounds_toArray, List.set]
                      refine wpAnyG_one (i := 9) (by kernel_rfl) ⟨_, rfl, fun K hK => ?_⟩
                      go_wp2_with fail
                      refine hK _ _ hW ?_
                      try simp only [Act.put, List.setIfInBounds_toArray, List.set]
                      refine wpAnyG_done (by kernel_rfl) ?_ _
                      refine OnlyN.mk ?_
                      go_wp2_with fail
                      go_meet
                      case rel => exact ⟨bb, _, _, _, _, rfl, rfl, hB, hA.mono' (fun _ _ _ => trivial), hW⟩
                · skip
                  go_wp2_with fail
                  refine hK _ _ hW ?_
                  try simp only [Act.put, List.setIfInBounds_toArray, List.set]
                  refine wpAnyG_two (i := 5) (j := 7) (by kernel_rfl) ⟨_, rfl, fun K hK => ?_⟩ ⟨_, rfl, fun K hK => ?_⟩
                  · skip
                    go_wp2_with fail
                    refine hK _ _ hW ?_
                    try simp only [Act.put, List.setIfInBounds_toArray, List.set]
                    refine wpAnyG_one (i := 7) (by kernel_rfl) ⟨_, rfl, fun K hK => ?_⟩
                    go_wp2_with fail
                    refine hK _ _ (hW.trans ((Ext.refl _).alloc (.cells #[.int .i64 0, .slice none 0 0, .slice none 0 0, .slice none 0 0] 26))) ?_
                    try simp only [Act.put, List.setIfInBounds_toArray, List.set]
                    have hB := box_new wv3 (.int .i64 0) (.slice none 0 0) (.slice none 0 0) (.slice none 0 0)
                    have hbl := hW.lt
                    replace hA := hA.mono' (G := fun x => x ≠ wv3.heap.size) (fun x _ hx => by omega)
                    have hX' := (Ext.refl wv3).alloc (.cells #[.int .i64 0, .slice none 0 0, .slice none 0 0, .slice none 0 0] 26)
                    replace hW := hW.trans hX'
                    replace hI := hI.ext hX'
                    replace hV := hV.ext hX'
                    replace hA := hA.ext hX'
                    generalize wv3.heap.size = bb at *
                    generalize wv3.alloc (.cells #[.int .i64 0, .slice none 0 0, .slice none 0 0, .slice none 0 0] 26) = wv9 at *
                    clear hX'
                    refine wpAnyG_one (i := 8) (by kernel_rfl) ⟨_, rfl, fun K hK => ?_⟩
                    obtain ⟨x0, x1, x2, x3⟩ := hB.cell
                    have y0 := hB.free 0
                    have y1 := hB.free 1
                    have y2 := hB.free 2
                    have y3 := hB.free 3
                    go_wp2_with fail
                    obtain ⟨g1, g2, g3⟩ := hB.put4 hW hbl (.int .i64 ka) (.slice pa1 la1 ma1) (.slice pa2 la2 ma2) (.slice pa3 la3 ma3)
                    refine hK _ _ g1 ?_
                    try simp only [Act.put, List.setIfInBounds_toArray, List.set]
                    have hA2 := ArrAt.mono (G := fun x => x ≠ bb) (w' := ((((wv9.setCell ⟨bb, 0, none⟩ (.int .i64 ka)).setCell ⟨bb, 1, none⟩ (.slice pa1 la1 ma1)).setCell ⟨bb, 2, none⟩ (.slice pa2 la2 ma2)).setCell ⟨bb, 3, none⟩ (.slice pa3 la3 ma3))) (fun x hx _ => ⟨hx, g3 x hx⟩) _ _ _ _ _ hA
                    clear x0 x1 x2 x3 y0 y1 y2 y3 g3 hA hB hI hV
                    revert g1 g2 hA2
                    generalize ((((wv9.setCell ⟨bb, 0, none⟩ (.int .i64 ka)).setCell ⟨bb, 1, none⟩ (.slice pa1 la1 ma1)).setCell ⟨bb, 2, none⟩ (.slice pa2 la2 ma2)).setCell ⟨bb, 3, none⟩ (.slice pa3 la3 ma3)) = wv10
                    intro hW' hB hA
                    replace hW := hW'
                    clear hW'
                    refine wpAnyG_one (i := 9) (by kernel_rfl) ⟨_, rfl, fun K hK => ?_⟩
                    go_wp2_with fail
                    refine hK _ _ hW ?_
                    try simp only [Act.put, List.setIfInBounds_toArray, List.set]
                    refine wpAnyG_done (by kernel_rfl) ?_ _
                    refine OnlyN.mk ?_
                    go_wp2_with fail
                    go_meet
                    case rel => exact ⟨bb, _, _, _, _, rfl, rfl, hB, hA.mono' (fun _ _ _ => trivial), hW⟩
                  · skip
                    go_wp2_with fail
                    refine hK _ _ (hW.trans ((Ext.refl _).alloc (.cells #[.int .i64 0, .slice none 0 0, .slice none 0 0, .slice none 0 0] 26))) ?_
                    try simp only [Act.put, List.setIfInBounds_toArray, List.set]
                    have hB := box_new wv3 (.int .i64 0) (.slice none 0 0) (.slice none 0 0) (.slice none 0 0)
                    have hbl := hW.lt
                    replace hA := hA.mono' (G := fun x => x ≠ wv3.heap.size) (fun x _ hx => by omega)
                    have hX' := (Ext.refl wv3).alloc (.cells #[.int .i64 0, .slice none 0 0, .slice none 0 0, .slice none 0 0] 26)
                    replace hW := hW.trans hX'
                    replace hI := hI.ext hX'
                    replace hV := hV.ext hX'
                    replace hA := hA.ext hX'
                    generalize wv3.heap.size = bb at *
                    generalize wv3.alloc (.cells #[.int .i64 0, .slice none 0 0, .slice none 0 0, .slice none 0 0] 26) = wv11 at *
                    clear hX'
                    refine wpAnyG_one (i := 5) (by kernel_rfl) ⟨_, rfl, fun K hK => ?_⟩
                    go_wp2_with fail
                    refine hK _ _ hW ?_
                    try simp only [Act.put, List.setIfInBounds_toArray, List.set]
                    refine wpAnyG_one (i := 8) (by kernel_rfl) ⟨_, rfl, fun K hK => ?_⟩
                    obtain ⟨x0, x1, x2, x3⟩ := hB.cell
                    have y0 := hB.free 0
                    have y1 := hB.free 1
                    have y2 := hB.free 2
                    have y3 := hB.free 3
                    go_wp2_with fail
                    obtain ⟨g1, g2, g3⟩ := hB.put4 hW hbl (.int .i64 ka) (.slice pa1 la1 ma1) (.slice pa2 la2 ma2) (.slice pa3 la3 ma3)
                    refine hK _ _ g1 ?_
                    try simp only [Act.put, List.setIfInBounds_toArray, List.set]
                    have hA2 := ArrAt.mono (G := fun x => x ≠ bb) (w' := ((((wv11.setCell ⟨bb, 0, none⟩ (.int .i64 ka)).setCell ⟨bb, 1, none⟩ (.slice pa1 la1 ma1)).setCell ⟨bb, 2, none⟩ (.slice pa2 la2 ma2)).setCell ⟨bb, 3, none⟩ (.slice pa3 la3 ma3))) (fun x hx _ => ⟨hx, g3 x hx⟩) _ _ _ _ _ hA
                    clear x0 x1 x2 x3 y0 y1 y2 y3 g3 hA hB hI hV
                    revert g1 g2 hA2
                    generalize ((((wv11.setCell ⟨bb, 0, none⟩ (.int .i64 ka)).setCell ⟨bb, 1, none⟩ (.slice pa1 la1 ma1)).setCell ⟨bb, 2, none⟩ (.slice pa2 la2 ma2)).setCell ⟨bb, 3, none⟩ (.slice pa3 la3 ma3)) = wv12
                    intro hW' hB hA
                    replace hW := hW'
                    clear hW'
                    refine wpAnyG_one (i := 9) (by kernel_rfl) ⟨_, rfl, fun K hK => ?_⟩
                    go_wp2_with fail
                    refine hK _ _ hW ?_
                    try simp only [Act.put, List.setIfInBounds_toArray, List.set]
                    refine wpAnyG_done (by kernel_rfl) ?_ _
                    refine OnlyN.mk ?_
                    go_wp2_with fail
                    go_meet
                    case rel => exact ⟨bb, _, _, _, _, rfl, rfl, hB, hA.mono' (fun _ _ _ => trivial), hW⟩
                · skip
                  go_wp2_with fail
                  refine hK _ _ (hW.trans ((Ext.refl _).alloc (.cells #[.int .i64 0, .slice none 0 0, .slice none 0 0, .slice none 0 0] 26))) ?_
                  try simp only [Act.put, List.setIfInBounds_toArray, List.set]
                  have hB := box_new wv3 (.int .i64 0) (.slice none 0 0) (.slice none 0 0) (.slice none 0 0)
                  have hbl := hW.lt
                  replace hA := hA.mono' (G := fun x => x ≠ wv3.heap.size) (fun x _ hx => by omega)
                  have hX' := (Ext.refl wv3).alloc (.cells #[.int .i64 0, .slice none 0 0, .slice none 0 0, .slice none 0 0] 26)
                  replace hW := hW.trans hX'
                  replace hI := hI.ext hX'
                  replace hV := hV.ext hX'
                  replace hA := hA.ext hX'
                  generalize wv3.heap.size = bb at *
                  generalize wv3.alloc (.cells #[.int .i64 0, .slice none 0 0, .slice none 0 0, .slice none 0 0] 26) = wv13 at *
                  clear hX'
                  refine wpAnyG_two (i := 5) (j := 6) (by kernel_rfl) ⟨_, rfl, fun K hK => ?_⟩ ⟨_, rfl, fun K hK => ?_⟩
                  · skip
                    go_wp2_with fail
                    refine hK _ _ hW ?_
                    try simp only [Act.put, List.setIfInBounds_toArray, List.set]
                    refine wpAnyG_two (i := 6) (j := 8) (by kernel_rfl) ⟨_, rfl, fun K hK => ?_⟩ ⟨_, rfl, fun K hK => ?_⟩
                    · skip
                      go_wp2_with fail
                      refine hK _ _ hW ?_
                      try simp only [Act.put, List.setIfInBounds_toArray, List.set]
                      refine wpAnyG_one (i := 8) (by kernel_rfl) ⟨_, rfl, fun K hK => ?_⟩
                      obtain ⟨x0, x1, x2, x3⟩ := hB.cell
                      have y0 := hB.free 0
                      have y1 := hB.free 1
                      have y2 := hB.free 2
                      have y3 := hB.free 3
                      go_wp2_with fail
                      obtain ⟨g1, g2, g3⟩ := hB.put4 hW hbl (.int .i64 ka) (.slice pa1 la1 ma1) (.slice pa2 la2 ma2) (.slice pa3 la3 ma3)
                      refine hK _ _ g1 ?_
                      try simp only [Act.put, List.setIfInBounds_toArray, List.set]
                      have hA2 := ArrAt.mono (G := fun x => x ≠ bb) (w' := ((((wv13.setCell ⟨bb, 0, none⟩ (.int .i64 ka)).setCell ⟨bb, 1, none⟩ (.slice pa1 la1 ma1)).setCell ⟨bb, 2, none⟩ (.slice pa2 la2 ma2)).setCell ⟨bb, 3, none⟩ (.slice pa3 la3 ma3))) (fun x hx _ => ⟨hx, g3 x hx⟩) _ _ _ _ _ hA
                      clear x0 x1 x2 x3 y0 y1 y2 y3 g3 hA hB hI hV
                      revert g1 g2 hA2
                      generalize ((((wv13.setCell ⟨bb, 0, none⟩ (.int .i64 ka)).setCell ⟨bb, 1, none⟩ (.slice pa1 la1 ma1)).setCell ⟨bb, 2, none⟩ (.slice pa2 la2 ma2)).setCell ⟨bb, 3, none⟩ (.slice pa3 la3 ma3)) = wv14
                      intro hW' hB hA
                      replace hW := hW'
                      clear hW'
                      refine wpAnyG_one (i := 9) (by kernel_rfl) ⟨_, rfl, fun K hK => ?_⟩
                      go_wp2_with fail
                      refine hK _ _ hW ?_
                      try simp only [Act.put, List.setIfInBounds_toArray, List.set]
                      refine wpAnyG_done (by kernel_rfl) ?_ _
                      refine OnlyN.mk ?_
                      go_wp2_with fail
                      go_meet
                      case rel => exact ⟨bb, _, _, _, _, rfl, rfl, hB, hA.mono' (fun _ _ _ => trivial), hW⟩
                    · skip
                      obtain ⟨x0, x1, x2, x3⟩ := hB.cell
                      have y0 := hB.free 0
                      have y1 := hB.free 1
                      have y2 := hB.free 2
                      have y3 := hB.free 3
                      go_wp2_with fail
                      obtain ⟨g1, g2, g3⟩ := hB.put4 hW hbl (.int .i64 ka) (.slice pa1 la1 ma1) (.slice pa2 la2 ma2) (.slice pa3 la3 ma3)
                      refine hK _ _ g1 ?_
                      try simp only [Act.put, List.setIfInBounds_toArray, List.set]
                      have hA2 := ArrAt.mono (G := fun x => x ≠ bb) (w' := ((((wv13.setCell ⟨bb, 0, none⟩ (.int .i64 ka)).setCell ⟨bb, 1, none⟩ (.slice pa1 la1 ma1)).setCell ⟨bb, 2, none⟩ (.slice pa2 la2 ma2)).setCell ⟨bb, 3, none⟩ (.slice pa3 la3 ma3))) (fun x hx _ => ⟨hx, g3 x hx⟩) _ _ _ _ _ hA
                      clear x0 x1 x2 x3 y0 y1 y2 y3 g3 hA hB hI hV
                      revert g1 g2 hA2
                      generalize ((((wv13.setCell ⟨bb, 0, none⟩ (.int .i64 ka)).setCell ⟨bb, 1, none⟩ (.slice pa1 la1 ma1)).setCell ⟨bb, 2, none⟩ (.slice pa2 la2 ma2)).setCell ⟨bb, 3, none⟩ (.slice pa3 la3 ma3)) = wv15
                      intro hW' hB hA
                      replace hW := hW'
                      clear hW'
                      refine wpAnyG_one (i := 6) (by kernel_rfl) ⟨_, rfl, fun K hK => ?_⟩
                      go_wp2_with fail
                      refine hK _ _ hW ?_
                      try simp only [Act.put, List.setIfInBounds_toArray, List.set]
                      refine wpAnyG_one (i := 9) (by kernel_rfl) ⟨_, rfl, fun K hK => ?_⟩
                      go_wp2_with fail
                      refine hK _ _ hW ?_
                      try simp only [Act.put, List.setIfInBounds_toArray, List.set]
                      refine wpAnyG_done (by kernel_rfl) ?_ _
                      refine OnlyN.mk ?_
                      go_wp2_with fail
                      go_meet
                      case rel => exact ⟨bb, _, _, _, _, rfl, rfl, hB, hA.mono' (fun _ _ _ => trivial), hW⟩
                  · skip
                    go_wp2_with fail
                    refine hK _ _ hW ?_
                    try simp only [Act.put, List.setIfInBounds_toArray, List.set]
                    refine wpAnyG_one (i := 5) (by kernel_rfl) ⟨_, rfl, fun K hK => ?_⟩
                    go_wp2_with fail
                    refine hK _ _ hW ?_
                    try simp only [Act.put, List.setIfInBounds_toArray, List.set]
                    refine wpAnyG_one (i := 8) (by kernel_rfl) ⟨_, rfl, fun K hK => ?_⟩
                    obtain ⟨x0, x1, x2, x3⟩ := hB.cell
                    have y0 := hB.free 0
                    have y1 := hB.free 1
                    have y2 := hB.free 2
                    have y3 := hB.free 3
                    go_wp2_with fail
                    obtain ⟨g1, g2, g3⟩ := hB.put4 hW hbl (.int .i64 ka) (.slice pa1 la1 ma1) (.slice pa2 la2 ma2) (.slice pa3 la3 ma3)
                    refine hK _ _ g1 ?_
                    try simp only [Act.put, List.setIfInBounds_toArray, List.set]
                    have hA2 := ArrAt.mono (G := fun x => x ≠ bb) (w' := ((((wv13.setCell ⟨bb, 0, none⟩ (.int .i64 ka)).setCell ⟨bb, 1, none⟩ (.slice pa1 la1 ma1)).setCell ⟨bb, 2, none⟩ (.slice pa2 la2 ma2)).setCell ⟨bb, 3, none⟩ (.slice pa3 la3 ma3))) (fun x hx _ => ⟨hx, g3 x hx⟩) _ _ _ _ _ hA
                    clear x0 x1 x2 x3 y0 y1 y2 y3 g3 hA hB hI hV
                    revert g1 g2 hA2
                    generalize ((((wv13.setCell ⟨bb, 0, none⟩ (.int .i64 ka)).setCell ⟨bb, 1, none⟩ (.slice pa1 la1 ma1)).setCell ⟨bb, 2, none⟩ (.slice pa2 la2 ma2)).setCell ⟨bb, 3, none⟩ (.slice pa3 la3 ma3)) = wv16
                    intro hW' hB hA
                    replace hW := hW'
                    clear hW'
                    refine wpAnyG_one (i := 9) (by kernel_rfl) ⟨_, rfl, fun K hK => ?_⟩
                    go_wp2_with fail
                    refine hK _ _ hW ?_
                    try simp only [Act.put, List.setIfInBounds_toArray, List.set]
                    refine wpAnyG_done (by kernel_rfl) ?_ _
                    refine OnlyN.mk ?_
                    go_wp2_with fail
                    go_meet
                    case rel => exact ⟨bb, _, _, _, _, rfl, rfl, hB, hA.mono' (fun _ _ _ => trivial), hW⟩
              · skip
                go_wp2_with fail
                refine hK _ _ (hW.trans ((Ext.refl _).alloc (.cells #[.int .i64 0, .slice none 0 0, .slice none 0 0, .slice none 0 0] 26))) ?_
                try simp only [Act.put, List.setIfInBounds_toArray, List.set]
                have hB := box_new wv3 (.int .i64 0) (.slice none 0 0) (.slice none 0 0) (.slice none 0 0)
                have hbl := hW.lt
                replace hA := hA.mono' (G := fun x => x ≠ wv3.heap.size) (fun x _ hx => by omega)
                have hX' := (Ext.refl wv3).alloc (.cells #[.int .i64 0, .slice none 0 0, .slice none 0 0, .slice none 0 0] 26)
                replace hW := hW.trans hX'
                replace hI := hI.ext hX'
                replace hV := hV.ext hX'
                replace hA := hA.ext hX'
                generalize wv3.heap.size = bb at *
                generalize wv3.alloc (.cells #[.int .i64 0, .slice none 0 0, .slice none 0 0, .slice none 0 0] 26) = wv17 at *
                clear hX'
                refine wpAnyG_one (i := 4) (by kernel_rfl) ⟨_, rfl, fun K hK => ?_⟩
                go_wp2_with fail
                refine hK _ _ hW ?_
                try simp only [Act.put, List.setIfInBounds_toArray, List.set]
                refine wpAnyG_two (i := 5) (j := 6) (by kernel_rfl) ⟨_, rfl, fun K hK => ?_⟩ ⟨_, rfl, fun K hK => ?_⟩
                · skip
                  go_wp2_with fail
                  refine hK _ _ hW ?_
                  try simp only [Act.put, List.setIfInBounds_toArray, List.set]
                  refine wpAnyG_two (i := 6) (j := 8) (by kernel_rfl) ⟨_, rfl, fun K hK => ?_⟩ ⟨_, rfl, fun K hK => ?_⟩
                  · skip
                    go_wp2_with fail
                    refine hK _ _ hW ?_
                    try simp only [Act.put, List.setIfInBounds_toArray, List.set]
                    refine wpAnyG_one (i := 8) (by kernel_rfl) ⟨_, rfl, fun K hK => ?_⟩
                    obtain ⟨x0, x1, x2, x3⟩ := hB.cell
                    have y0 := hB.free 0
                    have y1 := hB.free 1
                    have y2 := hB.free 2
                    have y3 := hB.free 3
                    go_wp2_with fail
                    obtain ⟨g1, g2, g3⟩ := hB.put4 hW hbl (.int .i64 ka) (.slice pa1 la1 ma1) (.slice pa2 la2 ma2) (.slice pa3 la3 ma3)
                    refine hK _ _ g1 ?_
                    try simp only [Act.put, List.setIfInBounds_toArray, List.set]
                    have hA2 := ArrAt.mono (G := fun x => x ≠ bb) (w' := ((((wv17.setCell ⟨bb, 0, none⟩ (.int .i64 ka)).setCell ⟨bb, 1, none⟩ (.slice pa1 la1 ma1)).setCell ⟨bb, 2, none⟩ (.slice pa2 la2 ma2)).setCell ⟨bb, 3, none⟩ (.slice pa3 la3 ma3))) (fun x hx _ => ⟨hx, g3 x hx⟩) _ _ _ _ _ hA
                    clear x0 x1 x2 x3 y0 y1 y2 y3 g3 hA hB hI hV
                    revert g1 g2 hA2
                    generalize ((((wv17.setCell ⟨bb, 0, none⟩ (.int .i64 ka)).setCell ⟨bb, 1, none⟩ (.slice pa1 la1 ma1)).setCell ⟨bb, 2, none⟩ (.slice pa2 la2 ma2)).setCell ⟨bb, 3, none⟩ (.slice pa3 la3 ma3)) = wv18
                    intro hW' hB hA
                    replace hW := hW'
                    clear hW'
                    refine wpAnyG_one (i := 9) (by kernel_rfl) ⟨_, rfl, fun K hK => ?_⟩
                    go_wp2_with fail
                    refine hK _ _ hW ?_
                    try simp only [Act.put, List.setIfInBounds_toArray, List.set]
                    refine wpAnyG_done (by kernel_rfl) ?_ _
                    refine OnlyN.mk ?_
                    go_wp2_with fail
                    go_meet
                    case rel => exact ⟨bb, _, _, _, _, rfl, rfl, hB, hA.mono' (fun _ _ _ => trivial), hW⟩
                  · skip
                    obtain ⟨x0, x1, x2, x3⟩ := hB.cell
                    have y0 := hB.free 0
                    have y1 := hB.free 1
                    have y2 := hB.free 2
                    have y3 := hB.free 3
                    go_wp2_with fail
                    obtain ⟨g1, g2, g3⟩ := hB.put4 hW hbl (.int .i64 ka) (.slice pa1 la1 ma1) (.slice pa2 la2 ma2) (.slice pa3 la3 ma3)
                    refine hK _ _ g1 ?_
                    try simp only [Act.put, List.setIfInBounds_toArray, List.set]
                    have hA2 := ArrAt.mono (G := fun x => x ≠ bb) (w' := ((((wv17.setCell ⟨bb, 0, none⟩ (.int .i64 ka)).setCell ⟨bb, 1, none⟩ (.slice pa1 la1 ma1)).setCell ⟨bb, 2, none⟩ (.slice pa2 la2 ma2)).setCell ⟨bb, 3, none⟩ (.slice pa3 la3 ma3))) (fun x hx _ => ⟨hx, g3 x hx⟩) _ _ _ _ _ hA
                    clear x0 x1 x2 x3 y0 y1 y2 y3 g3 hA hB hI hV
                    revert g1 g2 hA2
                    generalize ((((wv17.setCell ⟨bb, 0, none⟩ (.int .i64 ka)).setCell ⟨bb, 1, none⟩ (.slice pa1 la1 ma1)).setCell ⟨bb, 2, none⟩ (.slice pa2 la2 ma2)).setCell ⟨bb, 3, none⟩ (.slice pa3 la3 ma3)) = wv19
                    intro hW' hB hA
                    replace hW := hW'
                    clear hW'
                    refine wpAnyG_one (i := 6) (by kernel_rfl) ⟨_, rfl, fun K hK => ?_⟩
                    go_wp2_with fail
                    refine hK _ _ hW ?_
                    try simp only [Act.put, List.setIfInBounds_toArray, List.set]
                    refine wpAnyG_one (i := 9) (by kernel_rfl) ⟨_, rfl, fun K hK => ?_⟩
                    go_wp2_with fail
                    refine hK _ _ hW ?_
                    try simp only [Act.put, List.setIfInBounds_toArray, List.set]
                    refine wpAnyG_done (by kernel_rfl) ?_ _
                    refine OnlyN.mk ?_
                    go_wp2_with fail
                    go_meet
                    case rel => exact ⟨bb, _, _, _, _, rfl, rfl, hB, hA.mono' (fun _ _ _ => trivial), hW⟩
                · skip
                  go_wp2_with fail
                  refine hK _ _ hW ?_
                  try simp only [Act.put, List.setIfInBounds_toArray, List.set]
                  refine wpAnyG_one (i := 5) (by kernel_rfl) ⟨_, rfl, fun K hK => ?_⟩
                  go_wp2_with fail
                  refine hK _ _ hW ?_
                  try simp only [Act.put, List.setIfInBounds_toArray, List.set]
                  refine wpAnyG_one (i := 8) (by kernel_rfl) ⟨_, rfl, fun K hK => ?_⟩
                  obtain ⟨x0, x1, x2, x3⟩ := hB.cell
                  have y0 := hB.free 0
                  have y1 := hB.free 1
                  have y2 := hB.free 2
                  have y3 := hB.free 3
                  go_wp2_with fail
                  obtain ⟨g1, g2, g3⟩ := hB.put4 hW hbl (.int .i64 ka) (.slice pa1 la1 ma1) (.slice pa2 la2 ma2) (.slice pa3 la3 ma3)
                  refine hK _ _ g1 ?_
                  try simp only [Act.put, List.setIfInBounds_toArray, List.set]
                  have hA2 := ArrAt.mono (G := fun x => x ≠ bb) (w' := ((((wv17.setCell ⟨bb, 0, none⟩ (.int .i64 ka)).setCell ⟨bb, 1, none⟩ (.slice pa1 la1 ma1)).setCell ⟨bb, 2, none⟩ (.slice pa2 la2 ma2)).setCell ⟨bb, 3, none⟩ (.slice pa3 la3 ma3))) (fun x hx _ => ⟨hx, g3 x hx⟩) _ _ _ _ _ hA
                  clear x0 x1 x2 x3 y0 y1 y2 y3 g3 hA hB hI hV
                  revert g1 g2 hA2
                  generalize ((((wv17.setCell ⟨bb, 0, none⟩ (.int .i64 ka)).setCell ⟨bb, 1, none⟩ (.slice pa1 la1 ma1)).setCell ⟨bb, 2, none⟩ (.slice pa2 la2 ma2)).setCell ⟨bb, 3, none⟩ (.slice pa3 la3 ma3)) = wv20
                  intro hW' hB hA
                  replace hW := hW'
                  clear hW'
                  refine wpAnyG_one (i := 9) (by kernel_rfl) ⟨_, rfl, fun K hK => ?_⟩
                  go_wp2_with fail
                  refine hK _ _ hW ?_
                  try simp only [Act.put, List.setIfInBounds_toArray, List.set]
                  refine wpAnyG_done (by kernel_rfl) ?_ _
                  refine OnlyN.mk ?_
                  go_wp2_with fail
                  go_meet
                  case rel => exact ⟨bb, _, _, _, _, rfl, rfl, hB, hA.mono' (fun _ _ _ => trivial), hW⟩
            · skip
              go_wp2_with fail
              refine hK _ _ (hW.trans ((Ext.refl _).alloc (.cells #[.int .i64 0, .slice none 0 0, .slice none 0 0, .slice none 0 0] 26))) ?_
              try simp only [Act.put, List.setIfInBounds_toArray, List.set]
              have hB := box_new wv2 (.int .i64 0) (.slice none 0 0) (.slice none 0 0) (.slice none 0 0)
              have hbl := hW.lt
              have hX' := (Ext.refl wv2).alloc (.cells #[.int .i64 0, .slice none 0 0, .slice none 0 0, .slice none 0 0] 26)
              replace hW := hW.trans hX'
              replace hI := hI.ext hX'
              replace hV := hV.ext hX'
              generalize wv2.heap.size = bb at *
              generalize wv2.alloc (.cells #[.int .i64 0, .slice none 0 0, .slice none 0 0, .slice none 0 0] 26) = wv21 at *
              clear hX'
              refine wpAnyG_one (i := 3) (by kernel_rfl) ⟨_, rfl, fun K hK => ?_⟩
              go_wp2_with fail
              refine (axesAt _ _ _ _ _ _ _ _ _ _ _ _ _ _ wv21 HEX.out hV (HM.out.ext hW)).mono ?_
              rintro e wv22 ⟨a0, a1, a2, a3, rfl, hA, hX⟩
              obtain ⟨ka, pa1, la1, ma1, pa2, la2, ma2, pa3, la3, ma3, rfl, rfl, rfl, rfl⟩ := hA.form
              have hA := hA.mono' (G := fun x => x ≠ bb) (fun x hx _ => by have := hB.lt; omega)
              replace hA := hA
              have hX' := hX
              replace hW := hW.trans hX'
              replace hI := hI.ext hX'
              replace hV := hV.ext hX'
              replace hB := hB.ext hX'
              clear hX'
              go_wp2_with fail
              refine hK _ _ hW ?_
              try simp only [Act.put, List.setIfInBounds_toArray, List.set]
              clear hX
              refine wpAnyG_one (i := 4) (by kernel_rfl) ⟨_, rfl, fun K hK => ?_⟩
              go_wp2_with fail
              refine hK _ _ hW ?_
              try simp only [Act.put, List.setIfInBounds_toArray, List.set]
              refine wpAnyG_two (i := 5) (j := 6) (by kernel_rfl) ⟨_, rfl, fun K hK => ?_⟩ ⟨_, rfl, fun K hK => ?_⟩
              · skip
                go_wp2_with fail
                refine hK _ _ hW ?_
                try simp only [Act.put, List.setIfInBounds_toArray, List.set]
                refine wpAnyG_two (i := 6) (j := 8) (by kernel_rfl) ⟨_, rfl, fun K hK => ?_⟩ ⟨_, rfl, fun K hK => ?_⟩
                · skip
                  go_wp2_with fail
                  refine hK _ _ hW ?_
                  try simp only [Act.put, List.setIfInBounds_toArray, List.set]
                  refine wpAnyG_one (i := 8) (by kernel_rfl) ⟨_, rfl, fun K hK => ?_⟩
                  obtain ⟨x0, x1, x2, x3⟩ := hB.cell
                  have y0 := hB.free 0
                  have y1 := hB.free 1
                  have y2 := hB.free 2
                  have y3 := hB.free 3
                  go_wp2_with fail
                  obtain ⟨g1, g2, g3⟩ := hB.put4 hW hbl (.int .i64 ka) (.slice pa1 la1 ma1) (.slice pa2 la2 ma2) (.slice pa3 la3 ma3)
                  refine hK _ _ g1 ?_
                  try simp only [Act.put, List.setIfInBounds_toArray, List.set]
                  have hA2 := ArrAt.mono (G := fun x => x ≠ bb) (w' := ((((wv22.setCell ⟨bb, 0, none⟩ (.int .i64 ka)).setCell ⟨bb, 1, none⟩ (.slice pa1 la1 ma1)).setCell ⟨bb, 2, none⟩ (.slice pa2 la2 ma2)).setCell ⟨bb, 3, none⟩ (.slice pa3 la3 ma3))) (fun x hx _ => ⟨hx, g3 x hx⟩) _ _ _ _ _ hA
                  clear x0 x1 x2 x3 y0 y1 y2 y3 g3 hA hB hI hV
                  revert g1 g2 hA2
                  generalize ((((wv22.setCell ⟨bb, 0, none⟩ (.int .i64 ka)).setCell ⟨bb, 1, none⟩ (.slice pa1 la1 ma1)).setCell ⟨bb, 2, none⟩ (.slice pa2 la2 ma2)).setCell ⟨bb, 3, none⟩ (.slice pa3 la3 ma3)) = wv23
                  intro hW' hB hA
                  replace hW := hW'
                  clear hW'
                  refine wpAnyG_one (i := 9) (by kernel_rfl) ⟨_, rfl, fun K hK => ?_⟩
                  go_wp2_with fail
                  refine hK _ _ hW ?_
                  try simp only [Act.put, List.setIfInBounds_toArray, List.set]
                  refine wpAnyG_done (by kernel_rfl) ?_ _
                  refine OnlyN.mk ?_
                  go_wp2_with fail
                  go_meet
                  case rel => exact ⟨bb, _, _, _, _, rfl, rfl, hB, hA.mono' (fun _ _ _ => trivial), hW⟩
                · skip
                  obtain ⟨x0, x1, x2, x3⟩ := hB.cell
                  have y0 := hB.free 0
                  have y1 := hB.free 1
                  have y2 := hB.free 2
                  have y3 := hB.free 3
                  go_wp2_with fail
                  obtain ⟨g1, g2, g3⟩ := hB.put4 hW hbl (.int .i64 ka) (.slice pa1 la1 ma1) (.slice pa2 la2 ma2) (.slice pa3 la3 ma3)
                  refine hK _ _ g1 ?_
                  try simp only [Act.put, List.setIfInBounds_toArray, List.set]
                  have hA2 := ArrAt.mono (G := fun x => x ≠ bb) (w' := ((((wv22.setCell ⟨bb, 0, none⟩ (.int .i64 ka)).setCell ⟨bb, 1, none⟩ (.slice pa1 la1 ma1)).setCell ⟨bb, 2, none⟩ (.slice pa2 la2 ma2)).setCell ⟨bb, 3, none⟩ (.slice pa3 la3 ma3))) (fun x hx _ => ⟨hx, g3 x hx⟩) _ _ _ _ _ hA
                  clear x0 x1 x2 x3 y0 y1 y2 y3 g3 hA hB hI hV
                  revert g1 g2 hA2
                  generalize ((((wv22.setCell ⟨bb, 0, none⟩ (.int .i64 ka)).setCell ⟨bb, 1, none⟩ (.slice pa1 la1 ma1)).setCell ⟨bb, 2, none⟩ (.slice pa2 la2 ma2)).setCell ⟨bb, 3, none⟩ (.slice pa3 la3 ma3)) = wv24
                  intro hW' hB hA
                  replace hW := hW'
                  clear hW'
                  refine wpAnyG_one (i := 6) (by kernel_rfl) ⟨_, rfl, fun K hK => ?_⟩
                  go_wp2_with fail
                  refine hK _ _ hW ?_
                  try simp only [Act.put, List.setIfInBounds_toArray, List.set]
                  refine wpAnyG_one (i := 9) (by kernel_rfl) ⟨_, rfl, fun K hK => ?_⟩
                  go_wp2_with fail
                  refine hK _ _ hW ?_
                  try simp only [Act.put, List.setIfInBounds_toArray, List.set]
                  refine wpAnyG_done (by kernel_rfl) ?_ _
                  refine OnlyN.mk ?_
                  go_wp2_with fail
                  go_meet
                  case rel => exact ⟨bb, _, _, _, _, rfl, rfl, hB, hA.mono' (fun _ _ _ => trivial), hW⟩
              · skip
                go_wp2_with fail
                refine hK _ _ hW ?_
                try simp only [Act.put, List.setIfInBounds_toArray, List.set]
                refine wpAnyG_one (i := 5) (by kernel_rfl) ⟨_, rfl, fun K hK => ?_⟩
                go_wp2_with fail
                refine hK _ _ hW ?_
                try simp only [Act.put, List.setIfInBounds_toArray, List.set]
                refine wpAnyG_one (i := 8) (by kernel_rfl) ⟨_, rfl, fun K hK => ?_⟩
                obtain ⟨x0, x1, x2, x3⟩ := hB.cell
                have y0 := hB.free 0
                have y1 := hB.free 1
                have y2 := hB.free 2
                have y3 := hB.free 3
                go_wp2_with fail
                obtain ⟨g1, g2, g3⟩ := hB.put4 hW hbl (.int .i64 ka) (.slice pa1 la1 ma1) (.slice pa2 la2 ma2) (.slice pa3 la3 ma3)
                refine hK _ _ g1 ?_
                try simp only [Act.put, List.setIfInBounds_toArray, List.set]
                have hA2 := ArrAt.mono (G := fun x => x ≠ bb) (w' := ((((wv22.setCell ⟨bb, 0, none⟩ (.int .i64 ka)).setCell ⟨bb, 1, none⟩ (.slice pa1 la1 ma1)).setCell ⟨bb, 2, none⟩ (.slice pa2 la2 ma2)).setCell ⟨bb, 3, none⟩ (.slice pa3 la3 ma3))) (fun x hx _ => ⟨hx, g3 x hx⟩) _ _ _ _ _ hA
                clear x0 x1 x2 x3 y0 y1 y2 y3 g3 hA hB hI hV
                revert g1 g2 hA2
                generalize ((((wv22.setCell ⟨bb, 0, none⟩ (.int .i64 ka)).setCell ⟨bb, 1, none⟩ (.slice pa1 la1 ma1)).setCell ⟨bb, 2, none⟩ (.slice pa2 la2 ma2)).setCell ⟨bb, 3, none⟩ (.slice pa3 la3 ma3)) = wv25
                intro hW' hB hA
                replace hW := hW'
                clear hW'
                refine wpAnyG_one (i := 9) (by kernel_rfl) ⟨_, rfl, fun K hK => ?_⟩
                go_wp2_with fail
                refine hK _ _ hW ?_
                try simp only [Act.put, List.setIfInBounds_toArray, List.set]
                refine wpAnyG_done (by kernel_rfl) ?_ _
                refine OnlyN.mk ?_
                go_wp2_with fail
                go_meet
                case rel => exact ⟨bb, _, _, _, _, rfl, rfl, hB, hA.mono' (fun _ _ _ => trivial), hW⟩
          · skip
            go_wp2_with fail
            refine hK _ _ (hW.trans ((Ext.refl _).alloc (.cells #[.int .i64 0, .slice none 0 0, .slice none 0 0, .slice none 0 0] 26))) ?_
            try simp only [Act.put, List.setIfInBounds_toArray, List.set]
            have hB := box_new wv1 (.int .i64 0) (.slice none 0 0) (.slice none 0 0) (.slice none 0 0)
            have hbl := hW.lt
            have hX' := (Ext.refl wv1).alloc (.cells #[.int .i64 0, .slice none 0 0, .slice none 0 0, .slice none 0 0] 26)
            replace hW := hW.trans hX'
            replace hI := hI.ext hX'
            generalize wv1.heap.size = bb at *
            generalize wv1.alloc (.cells #[.int .i64 0, .slice none 0 0, .slice none 0 0, .slice none 0 0] 26) = wv26 at *
            clear hX'
            refine wpAnyG_one (i := 1) (by kernel_rfl) ⟨_, rfl, fun K hK => ?_⟩
            go_wp2_with fail
            refine (vec_any _ _ 2 [0, 0] wv26 hI ⟨by decide, by decide, by decide⟩).mono ?_
            rintro e wv27 ⟨v0, v1, v2, v3, rfl, hV, hX⟩
            have hX' := hX
            replace hW := hW.trans hX'
            replace hI := hI.ext hX'
            replace hB := hB.ext hX'
            clear hX'
            go_wp2_with fail
            refine hK _ _ hW ?_
            try simp only [Act.put, List.setIfInBounds_toArray, List.set]
            clear hX
            refine wpAnyG_one (i := 3) (by kernel_rfl) ⟨_, rfl, fun K hK => ?_⟩
            go_wp2_with fail
            refine (axesAt _ _ _ _ _ _ _ _ _ _ _ _ _ _ wv27 HEX.out hV (HM.out.ext hW)).mono ?_
            rintro e wv28 ⟨a0, a1, a2, a3, rfl, hA, hX⟩
            obtain ⟨ka, pa1, la1, ma1, pa2, la2, ma2, pa3, la3, ma3, rfl, rfl, rfl, rfl⟩ := hA.form
            have hA := hA.mono' (G := fun x => x ≠ bb) (fun x hx _ => by have := hB.lt; omega)
            replace hA := hA
            have hX' := hX
            replace hW := hW.trans hX'
            replace hI := hI.ext hX'
            replace hB := hB.ext hX'
            replace hV := hV.ext hX'
            clear hX'
            go_wp2_with fail
            refine hK _ _ hW ?_
            try simp only [Act.put, List.setIfInBounds_toArray, List.set]
            clear hX
            refine wpAnyG_one (i := 4) (by kernel_rfl) ⟨_, rfl, fun K hK => ?_⟩
            go_wp2_with fail
            refine hK _ _ hW ?_
            try simp only [Act.put, List.setIfInBounds_toArray, List.set]
            refine wpAnyG_two (i := 5) (j := 6) (by kernel_rfl) ⟨_, rfl, fun K hK => ?_⟩ ⟨_, rfl, fun K hK => ?_⟩
            · skip
              go_wp2_with fail
              refine hK _ _ hW ?_
              try simp only [Act.put, List.setIfInBounds_toArray, List.set]
              refine wpAnyG_two (i := 6) (j := 8) (by kernel_rfl) ⟨_, rfl, fun K hK => ?_⟩ ⟨_, rfl, fun K hK => ?_⟩
              · skip
                go_wp2_with fail
                refine hK _ _ hW ?_
                try simp only [Act.put, List.setIfInBounds_toArray, List.set]
                refine wpAnyG_one (i := 8) (by kernel_rfl) ⟨_, rfl, fun K hK => ?_⟩
                obtain ⟨x0, x1, x2, x3⟩ := hB.cell
                have y0 := hB.free 0
                have y1 := hB.free 1
                have y2 := hB.free 2
                have y3 := hB.free 3
                go_wp2_with fail
                obtain ⟨g1, g2, g3⟩ := hB.put4 hW hbl (.int .i64 ka) (.slice pa1 la1 ma1) (.slice pa2 la2 ma2) (.slice pa3 la3 ma3)
                refine hK _ _ g1 ?_
                try simp only [Act.put, List.setIfInBounds_toArray, List.set]
                have hA2 := ArrAt.mono (G := fun x => x ≠ bb) (w' := ((((wv28.setCell ⟨bb, 0, none⟩ (.int .i64 ka)).setCell ⟨bb, 1, none⟩ (.slice pa1 la1 ma1)).setCell ⟨bb, 2, none⟩ (.slice pa2 la2 ma2)).setCell ⟨bb, 3, none⟩ (.slice pa3 la3 ma3))) (fun x hx _ => ⟨hx, g3 x hx⟩) _ _ _ _ _ hA
                clear x0 x1 x2 x3 y0 y1 y2 y3 g3 hA hB hI hV
                revert g1 g2 hA2
                generalize ((((wv28.setCell ⟨bb, 0, none⟩ (.int .i64 ka)).setCell ⟨bb, 1, none⟩ (.slice pa1 la1 ma1)).setCell ⟨bb, 2, none⟩ (.slice pa2 la2 ma2)).setCell ⟨bb, 3, none⟩ (.slice pa3 la3 ma3)) = wv29
                intro hW' hB hA
                replace hW := hW'
                clear hW'
                refine wpAnyG_one (i := 9) (by kernel_rfl) ⟨_, rfl, fun K hK => ?_⟩
                go_wp2_with fail
                refine hK _ _ hW ?_
                try simp only [Act.put, List.setIfInBounds_toArray, List.set]
                refine wpAnyG_done (by kernel_rfl) ?_ _
                refine OnlyN.mk ?_
                go_wp2_with fail
                go_meet
                case rel => exact ⟨bb, _, _, _, _, rfl, rfl, hB, hA.mono' (fun _ _ _ => trivial), hW⟩
              · skip
                obtain ⟨x0, x1, x2, x3⟩ := hB.cell
                have y0 := hB.free 0
                have y1 := hB.free 1
                have y2 := hB.free 2
                have y3 := hB.free 3
                go_wp2_with fail
                obtain ⟨g1, g2, g3⟩ := hB.put4 hW hbl (.int .i64 ka) (.slice pa1 la1 ma1) (.slice pa2 la2 ma2) (.slice pa3 la3 ma3)
                refine hK _ _ g1 ?_
                try simp only [Act.put, List.setIfInBounds_toArray, List.set]
                have hA2 := ArrAt.mono (G := fun x => x ≠ bb) (w' := ((((wv28.setCell ⟨bb, 0, none⟩ (.int .i64 ka)).setCell ⟨bb, 1, none⟩ (.slice pa1 la1 ma1)).setCell ⟨bb, 2, none⟩ (.slice pa2 la2 ma2)).setCell ⟨bb, 3, none⟩ (.slice pa3 la3 ma3))) (fun x hx _ => ⟨hx, g3 x hx⟩) _ _ _ _ _ hA
                clear x0 x1 x2 x3 y0 y1 y2 y3 g3 hA hB hI hV
                revert g1 g2 hA2
                generalize ((((wv28.setCell ⟨bb, 0, none⟩ (.int .i64 ka)).setCell ⟨bb, 1, none⟩ (.slice pa1 la1 ma1)).setCell ⟨bb, 2, none⟩ (.slice pa2 la2 ma2)).setCell ⟨bb, 3, none⟩ (.slice pa3 la3 ma3)) = wv30
                intro hW' hB hA
                replace hW := hW'
                clear hW'
                refine wpAnyG_one (i := 6) (by kernel_rfl) ⟨_, rfl, fun K hK => ?_⟩
                go_wp2_with fail
                refine hK _ _ hW ?_
                try simp only [Act.put, List.setIfInBounds_toArray, List.set]
                refine wpAnyG_one (i := 9) (by kernel_rfl) ⟨_, rfl, fun K hK => ?_⟩
                go_wp2_with fail
                refine hK _ _ hW ?_
                try simp only [Act.put, List.setIfInBounds_toArray, List.set]
                refine wpAnyG_done (by kernel_rfl) ?_ _
                refine OnlyN.mk ?_
                go_wp2_with fail
                go_meet
                case rel => exact ⟨bb, _, _, _, _, rfl, rfl, hB, hA.mono' (fun _ _ _ => trivial), hW⟩
            · skip
              go_wp2_with fail
              refine hK _ _ hW ?_
              try simp only [Act.put, List.setIfInBounds_toArray, List.set]
              refine wpAnyG_one (i := 5) (by kernel_rfl) ⟨_, rfl, fun K hK => ?_⟩
              go_wp2_with fail
              refine hK _ _ hW ?_
              try simp only [Act.put, List.setIfInBounds_toArray, List.set]
              refine wpAnyG_one (i := 8) (by kernel_rfl) ⟨_, rfl, fun K hK => ?_⟩
              obtain ⟨x0, x1, x2, x3⟩ := hB.cell
              have y0 := hB.free 0
              have y1 := hB.free 1
              have y2 := hB.free 2
              have y3 := hB.free 3
              go_wp2_with fail
              obtain ⟨g1, g2, g3⟩ := hB.put4 hW hbl (.int .i64 ka) (.slice pa1 la1 ma1) (.slice pa2 la2 ma2) (.slice pa3 la3 ma3)
              refine hK _ _ g1 ?_
              try simp only [Act.put, List.setIfInBounds_toArray, List.set]
              have hA2 := ArrAt.mono (G := fun x => x ≠ bb) (w' := ((((wv28.setCell ⟨bb, 0, none⟩ (.int .i64 ka)).setCell ⟨bb, 1, none⟩ (.slice pa1 la1 ma1)).setCell ⟨bb, 2, none⟩ (.slice pa2 la2 ma2)).setCell ⟨bb, 3, none⟩ (.slice pa3 la3 ma3))) (fun x hx _ => ⟨hx, g3 x hx⟩) _ _ _ _ _ hA
              clear x0 x1 x2 x3 y0 y1 y2 y3 g3 hA hB hI hV
              revert g1 g2 hA2
              generalize ((((wv28.setCell ⟨bb, 0, none⟩ (.int .i64 ka)).setCell ⟨bb, 1, none⟩ (.slice pa1 la1 ma1)).setCell ⟨bb, 2, none⟩ (.slice pa2 la2 ma2)).setCell ⟨bb, 3, none⟩ (.slice pa3 la3 ma3)) = wv31
              intro hW' hB hA
              replace hW := hW'
              clear hW'
              refine wpAnyG_one (i := 9) (by kernel_rfl) ⟨_, rfl, fun K hK => ?_⟩
              go_wp2_with fail
              refine hK _ _ hW ?_
              try simp only [Act.put, List.setIfInBounds_toArray, List.set]
              refine wpAnyG_done (by kernel_rfl) ?_ _
              refine OnlyN.mk ?_
              go_wp2_with fail
              go_meet
              case rel => exact ⟨bb, _, _, _, _, rfl, rfl, hB, hA.mono' (fun _ _ _ => trivial), hW⟩
        · skip
          go_wp2_with fail
          refine hK _ _ (hW.trans ((Ext.refl _).alloc (.cells #[.int .i64 0, .slice none 0 0, .slice none 0 0, .slice none 0 0] 26))) ?_
          try simp only [Act.put, List.setIfInBounds_toArray, List.set]
          have hB := box_new wv0 (.int .i64 0) (.slice none 0 0) (.slice none 0 0) (.slice none 0 0)
          have hbl := hW.lt
          have hX' := (Ext.refl wv0).alloc (.cells #[.int .i64 0, .slice none 0 0, .slice none 0 0, .slice none 0 0] 26)
          replace hW := hW.trans hX'
          generalize wv0.heap.size = bb at *
          generalize wv0.alloc (.cells #[.int .i64 0, .slice none 0 0, .slice none 0 0, .slice none 0 0] 26) = wv32 at *
          clear hX'
          refine wpAnyG_one (i := 0) (by kernel_rfl) ⟨_, rfl, fun K hK => ?_⟩
          go_wp2_with fail
          refine hK _ _ (hW.trans ((Ext.refl _).alloc (.cells #[.int .i64 0, .int .i64 0] 3))) ?_
          try simp only [Act.put, List.setIfInBounds_toArray, List.set]
          have hI := (rowI_new wv32 [0, 0]).ints (by decide)
          change IntsAt _ (wv32.alloc (.cells #[.int .i64 0, .int .i64 0] 3)) _ _ at hI
          have hX' := (Ext.refl wv32).alloc (.cells #[.int .i64 0, .int .i64 0] 3)
          replace hW := hW.trans hX'
          replace hB := hB.ext hX'
          generalize wv32.alloc (.cells #[.int .i64 0, .int .i64 0] 3) = wv33 at *
          clear hX'
          refine wpAnyG_one (i := 1) (by kernel_rfl) ⟨_, rfl, fun K hK => ?_⟩
          go_wp2_with fail
          refine (vec_any _ _ 2 [0, 0] wv33 hI ⟨by decide, by decide, by decide⟩).mono ?_
          rintro e wv34 ⟨v0, v1, v2, v3, rfl, hV, hX⟩
          have hX' := hX
          replace hW := hW.trans hX'
          replace hB := hB.ext hX'
          replace hI := hI.ext hX'
          clear hX'
          go_wp2_with fail
          refine hK _ _ hW ?_
          try simp only [Act.put, List.setIfInBounds_toArray, List.set]
          clear hX
          refine wpAnyG_one (i := 3) (by kernel_rfl) ⟨_, rfl, fun K hK => ?_⟩
          go_wp2_with fail
          refine (axesAt _ _ _ _ _ _ _ _ _ _ _ _ _ _ wv34 HEX.out hV (HM.out.ext hW)).mono ?_
          rintro e wv35 ⟨a0, a1, a2, a3, rfl, hA, hX⟩
          obtain ⟨ka, pa1, la1, ma1, pa2, la2, ma2, pa3, la3, ma3, rfl, rfl, rfl, rfl⟩ := hA.form
          have hA := hA.mono' (G := fun x => x ≠ bb) (fun x hx _ => by have := hB.lt; omega)
          replace hA := hA
          have hX' := hX
          replace hW := hW.trans hX'
          replace hB := hB.ext hX'
          replace hI := hI.ext hX'
          replace hV := hV.ext hX'
          clear hX'
          go_wp2_with fail
          refine hK _ _ hW ?_
          try simp only [Act.put, List.setIfInBounds_toArray, List.set]
          clear hX
          refine wpAnyG_one (i := 4) (by kernel_rfl) ⟨_, rfl, fun K hK => ?_⟩
          go_wp2_with fail
          refine hK _ _ hW ?_
          try simp only [Act.put, List.setIfInBounds_toArray, List.set]
          refine wpAnyG_two (i := 5) (j := 6) (by kernel_rfl) ⟨_, rfl, fun K hK => ?_⟩ ⟨_, rfl, fun K hK => ?_⟩
          · skip
            go_wp2_with fail
            refine hK _ _ hW ?_
            try simp only [Act.put, List.setIfInBounds_toArray, List.set]
            refine wpAnyG_two (i := 6) (j := 8) (by kernel_rfl) ⟨_, rfl, fun K hK => ?_⟩ ⟨_, rfl, fun K hK => ?_⟩
            · skip
              go_wp2_with fail
              refine hK _ _ hW ?_
              try simp only [Act.put, List.setIfInBounds_toArray, List.set]
              refine wpAnyG_one (i := 8) (by kernel_rfl) ⟨_, rfl, fun K hK => ?_⟩
              obtain ⟨x0, x1, x2, x3⟩ := hB.cell
              have y0 := hB.free 0
              have y1 := hB.free 1
              have y2 := hB.free 2
              have y3 := hB.free 3
              go_wp2_with fail
              obtain ⟨g1, g2, g3⟩ := hB.put4 hW hbl (.int .i64 ka) (.slice pa1 la1 ma1) (.slice pa2 la2 ma2) (.slice pa3 la3 ma3)
              refine hK _ _ g1 ?_
              try simp only [Act.put, List.setIfInBounds_toArray, List.set]
              have hA2 := ArrAt.mono (G := fun x => x ≠ bb) (w' := ((((wv35.setCell ⟨bb, 0, none⟩ (.int .i64 ka)).setCell ⟨bb, 1, none⟩ (.slice pa1 la1 ma1)).setCell ⟨bb, 2, none⟩ (.slice pa2 la2 ma2)).setCell ⟨bb, 3, none⟩ (.slice pa3 la3 ma3))) (fun x hx _ => ⟨hx, g3 x hx⟩) _ _ _ _ _ hA
              clear x0 x1 x2 x3 y0 y1 y2 y3 g3 hA hB hI hV
              revert g1 g2 hA2
              generalize ((((wv35.setCell ⟨bb, 0, none⟩ (.int .i64 ka)).setCell ⟨bb, 1, none⟩ (.slice pa1 la1 ma1)).setCell ⟨bb, 2, none⟩ (.slice pa2 la2 ma2)).setCell ⟨bb, 3, none⟩ (.slice pa3 la3 ma3)) = wv36
              intro hW' hB hA
              replace hW := hW'
              clear hW'
              refine wpAnyG_one (i := 9) (by kernel_rfl) ⟨_, rfl, fun K hK => ?_⟩
              go_wp2_with fail
              refine hK _ _ hW ?_
              try simp only [Act.put, List.setIfInBounds_toArray, List.set]
              refine wpAnyG_done (by kernel_rfl) ?_ _
              refine OnlyN.mk ?_
              go_wp2_with fail
              go_meet
              case rel => exact ⟨bb, _, _, _, _, rfl, rfl, hB, hA.mono' (fun _ _ _ => trivial), hW⟩
            · skip
              obtain ⟨x0, x1, x2, x3⟩ := hB.cell
              have y0 := hB.free 0
              have y1 := hB.free 1
              have y2 := hB.free 2
              have y3 := hB.free 3
              go_wp2_with fail
              obtain ⟨g1, g2, g3⟩ := hB.put4 hW hbl (.int .i64 ka) (.slice pa1 la1 ma1) (.slice pa2 la2 ma2) (.slice pa3 la3 ma3)
              refine hK _ _ g1 ?_
              try simp only [Act.put, List.setIfInBounds_toArray, List.set]
              have hA2 := ArrAt.mono (G := fun x => x ≠ bb) (w' := ((((wv35.setCell ⟨bb, 0, none⟩ (.int .i64 ka)).setCell ⟨bb, 1, none⟩ (.slice pa1 la1 ma1)).setCell ⟨bb, 2, none⟩ (.slice pa2 la2 ma2)).setCell ⟨bb, 3, none⟩ (.slice pa3 la3 ma3))) (fun x hx _ => ⟨hx, g3 x hx⟩) _ _ _ _ _ hA
              clear x0 x1 x2 x3 y0 y1 y2 y3 g3 hA hB hI hV
              revert g1 g2 hA2
              generalize ((((wv35.setCell ⟨bb, 0, none⟩ (.int .i64 ka)).setCell ⟨bb, 1, none⟩ (.slice pa1 la1 ma1)).setCell ⟨bb, 2, none⟩ (.slice pa2 la2 ma2)).setCell ⟨bb, 3, none⟩ (.slice pa3 la3 ma3)) = wv37
              intro hW' hB hA
              replace hW := hW'
              clear hW'
              refine wpAnyG_one (i := 6) (by kernel_rfl) ⟨_, rfl, fun K hK => ?_⟩
              go_wp2_with fail
              refine hK _ _ hW ?_
              try simp only [Act.put, List.setIfInBounds_toArray, List.set]
              refine wpAnyG_one (i := 9) (by kernel_rfl) ⟨_, rfl, fun K hK => ?_⟩
              go_wp2_with fail
              refine hK _ _ hW ?_
              try simp only [Act.put, List.setIfInBounds_toArray, List.set]
              refine wpAnyG_done (by kernel_rfl) ?_ _
              refine OnlyN.mk ?_
              go_wp2_with fail
              go_meet
              case rel => exact ⟨bb, _, _, _, _, rfl, rfl, hB, hA.mono' (fun _ _ _ => trivial), hW⟩
          · skip
            go_wp2_with fail
            refine hK _ _ hW ?_
            try simp only [Act.put, List.setIfInBounds_toArray, List.set]
            refine wpAnyG_one (i := 5) (by kernel_rfl) ⟨_, rfl, fun K hK => ?_⟩
            go_wp2_with fail
            refine hK _ _ hW ?_
            try simp only [Act.put, List.setIfInBounds_toArray, List.set]
            refine wpAnyG_one (i := 8) (by kernel_rfl) ⟨_, rfl, fun K hK => ?_⟩
            obtain ⟨x0, x1, x2, x3⟩ := hB.cell
            have y0 := hB.free 0
            have y1 := hB.free 1
            have y2 := hB.free 2
            have y3 := hB.free 3
            go_wp2_with fail
            obtain ⟨g1, g2, g3⟩ := hB.put4 hW hbl (.int .i64 ka) (.slice pa1 la1 ma1) (.slice pa2 la2 ma2) (.slice pa3 la3 ma3)
            refine hK _ _ g1 ?_
            try simp only [Act.put, List.setIfInBounds_toArray, List.set]
            have hA2 := ArrAt.mono (G := fun x => x ≠ bb) (w' := ((((wv35.setCell ⟨bb, 0, none⟩ (.int .i64 ka)).setCell ⟨bb, 1, none⟩ (.slice pa1 la1 ma1)).setCell ⟨bb, 2, none⟩ (.slice pa2 la2 ma2)).setCell ⟨bb, 3, none⟩ (.slice pa3 la3 ma3))) (fun x hx _ => ⟨hx, g3 x hx⟩) _ _ _ _ _ hA
            clear x0 x1 x2 x3 y0 y1 y2 y3 g3 hA hB hI hV
            revert g1 g2 hA2
            generalize ((((wv35.setCell ⟨bb, 0, none⟩ (.int .i64 ka)).setCell ⟨bb, 1, none⟩ (.slice pa1 la1 ma1)).setCell ⟨bb, 2, none⟩ (.slice pa2 la2 ma2)).setCell ⟨bb, 3, none⟩ (.slice pa3 la3 ma3)) = wv38
            intro hW' hB hA
            replace hW := hW'
            clear hW'
            refine wpAnyG_one (i := 9) (by kernel_rfl) ⟨_, rfl, fun K hK => ?_⟩
            go_wp2_with fail
            refine hK _ _ hW ?_
            try simp only [Act.put, List.setIfInBounds_toArray, List.set]
            refine wpAnyG_done (by kernel_rfl) ?_ _
            refine OnlyN.mk ?_
            go_wp2_with fail
            go_meet
            case rel => exact ⟨bb, _, _, _, _, rfl, rfl, hB, hA.mono' (fun _ _ _ => trivial), hW⟩
      case rest =>
        obtain ⟨bx, y0, y1, y2, y3, rfl, rfl, hB, hA, hE⟩ := hcut
        rcases Nat.lt_or_ge m n with hmn | hmn
        · have hK : min n m = m := by omega
          have hci : (m : Int) < n := by omega
          rw [hK] at hA
          clear hK
          have hdl := diag_length l m m
          have HDG := Lib.hid (diag_getD l m m)
          generalize diag l m m = dg at *
          unfold ArrAt at hA
          obtain ⟨rfl, _, ⟨pa, ca, rfl, hka, ia⟩, ⟨pd, cd, rfl, hkd, id1⟩, ⟨p3, c3, rfl, hk3, _⟩⟩ := hA
          obtain ⟨z0, z1, z2, z3⟩ := hB.cell
          have HDL := Lib.hid hdl
          have HIA := Lib.hid ia
          have HID := Lib.hid id1
          have HB := Lib.hid hB
          clear ia id1 hB
          rw [hdl] at z2
          clear hdl
          obtain ⟨hkd1, hkd2, hkd3⟩ := hkd
          rw [HDL.out] at hkd1 hkd3
          go_wp2_with fail
          have hJ := (rowI_new wc [(m : Int)]).ints (by
            intro x hx
            rw [List.mem_singleton] at hx
            subst hx
            omega)
          have hX := (Ext.refl wc).alloc (.cells #[.int .i64 m] 3)
          change IntsAt _ (wc.alloc (.cells #[.int .i64 m] 3)) _ _ at hJ
          generalize wc.alloc (.cells #[.int .i64 m] 3) = w5 at hJ hX ⊢
          have HC := ints_any _ _ pa _ ca 1 [(m : Int)] [(m : Int)] w5 (HIA.out.ext hX) hJ (by unfold lenMax; simp) (by unfold lenMax; simp)
          rw [show (([(m : Int)] : List Int) == [(m : Int)]) = true by simp] at HC
          refine HC.mono ?_
          clear HC
          rintro e w6 ⟨rfl, hX2⟩
          have hE6 := hE.trans (hX.trans hX2)
          have hW6 := hX.trans hX2
          clear hJ hX hX2 z0 z1 z2 z3
          obtain ⟨z0, z1, z2, z3⟩ := (HB.out.ext hW6).cell
          rw [HDL.out] at z2
          go_wp2_with fail
          clear z0 z1 z2 z3
          go_loopw [13] (fun i wr => ∃ (j : Nat), j ≤ m ∧ i = .int .i64 j ∧ Ext w6 wr) (fun i _ => m - (intOf i).toNat)
          case atStart => exact ⟨0, Nat.zero_le _, rfl, Ext.refl _⟩
          case round =>
            obtain ⟨j, hj, rfl, hEr⟩ := hrel
            obtain ⟨z0, z1, z2, z3⟩ := (HB.out.ext (hW6.trans hEr)).cell
            rw [HDL.out] at z2
            obtain ⟨v0, v1, v2, v3⟩ := (HMB.out.ext (hE6.trans hEr)).cell
            by_cases hjk : j < m
            · obtain ⟨T, hT⟩ : ∃ T : Nat, (j : Int) * (m : Int) = (T : Int) := ⟨j * m, by simp⟩
              have hTn : T = j * m := by
                have h1 : ((j * m : Nat) : Int) = (T : Int) := by rw [Int.natCast_mul]; exact hT
                exact (Int.ofNat.inj h1).symm
              have hTl : T + j < l.length := by
                have h1 := Nat.mul_le_mul_right m (show j + 1 ≤ n by omega)
                rw [Nat.succ_mul] at h1
                have h2 := HPL.out
                have h3 := HPN.out
                omega
              have HGD := Lib.hid (HDG.out j hjk)
              obtain ⟨bd, fd, rfl, hd1, _, _⟩ := (HID.out.ext (hW6.trans hEr)).get (i := j) (by rw [HDL.out]; exact hjk)
              obtain ⟨bl, fl, rfl, hl1, _, _⟩ := (HVI.out.ext (hE6.trans hEr)).get hTl
              rw [HGD.out, ← hTn] at hd1
              generalize l.getD (T + j) 0 = dv at *
              clear hTn
              go_wp2_with fail
              go_quiet (fail)
              go_wp2_with fail
              exact ⟨⟨j + 1, by omega, by go_num, hEr.drewN _⟩, by simp [intOf]; omega⟩
            · go_wp2_with fail
              refine (awake_any _).mono ?_
              rintro e w7 ⟨rfl, hX7⟩
              go_wp2_with fail
              go_ret
              exact ⟨rfl, ((hE1.trans hE6).trans hEr).trans hX7⟩
        · have hK : min n m = n := by omega
          have hci : ¬ (m : Int) < n := by omega
          rw [hK] at hA
          clear hK
          have hdl := diag_length l m n
          have HDG := Lib.hid (diag_getD l m n)
          generalize diag l m n = dg at *
          unfold ArrAt at hA
          obtain ⟨rfl, _, ⟨pa, ca, rfl, hka, ia⟩, ⟨pd, cd, rfl, hkd, id1⟩, ⟨p3, c3, rfl, hk3, _⟩⟩ := hA
          obtain ⟨z0, z1, z2, z3⟩ := hB.cell
          have HDL := Lib.hid hdl
          have HIA := Lib.hid ia
          have HID := Lib.hid id1
          have HB := Lib.hid hB
          clear ia id1 hB
          rw [hdl] at z2
          clear hdl
          obtain ⟨hkd1, hkd2, hkd3⟩ := hkd
          rw [HDL.out] at hkd1 hkd3
          go_wp2_with fail
          have hJ := (rowI_new wc [(n : Int)]).ints (by
            intro x hx
            rw [List.mem_singleton] at hx
            subst hx
            omega)
          have hX := (Ext.refl wc).alloc (.cells #[.int .i64 n] 3)
          change IntsAt _ (wc.alloc (.cells #[.int .i64 n] 3)) _ _ at hJ
          generalize wc.alloc (.cells #[.int .i64 n] 3) = w5 at hJ hX ⊢
          have HC := ints_any _ _ pa _ ca 1 [(n : Int)] [(n : Int)] w5 (HIA.out.ext hX) hJ (by unfold lenMax; simp) (by unfold lenMax; simp)
          rw [show (([(n : Int)] : List Int) == [(n : Int)]) = true by simp] at HC
          refine HC.mono ?_
          clear HC
          rintro e w6 ⟨rfl, hX2⟩
          have hE6 := hE.trans (hX.trans hX2)
          have hW6 := hX.trans hX2
          clear hJ hX hX2 z0 z1 z2 z3
          obtain ⟨z0, z1, z2, z3⟩ := (HB.out.ext hW6).cell
          rw [HDL.out] at z2
          go_wp2_with fail
          clear z0 z1 z2 z3
          go_loopw [13] (fun i wr => ∃ (j : Nat), j ≤ n ∧ i = .int .i64 j ∧ Ext w6 wr) (fun i _ => n - (intOf i).toNat)
          case atStart => exact ⟨0, Nat.zero_le _, rfl, Ext.refl _⟩
          case round =>
            obtain ⟨j, hj, rfl, hEr⟩ := hrel
            obtain ⟨z0, z1, z2, z3⟩ := (HB.out.ext (hW6.trans hEr)).cell
            rw [HDL.out] at z2
            obtain ⟨v0, v1, v2, v3⟩ := (HMB.out.ext (hE6.trans hEr)).cell
            by_cases hjk : j < n
            · obtain ⟨T, hT⟩ : ∃ T : Nat, (j : Int) * (m : Int) = (T : Int) := ⟨j * m, by simp⟩
              have hTn : T = j * m := by
                have h1 : ((j * m : Nat) : Int) = (T : Int) := by rw [Int.natCast_mul]; exact hT
                exact (Int.ofNat.inj h1).symm
              have hTl : T + j < l.length := by
                have h1 := Nat.mul_le_mul_right m (show j + 1 ≤ n by omega)
                rw [Nat.succ_mul] at h1
                have h2 := HPL.out
                have h3 := HPN.out
                omega
              have HGD := Lib.hid (HDG.out j hjk)
              obtain ⟨bd, fd, rfl, hd1, _, _⟩ := (HID.out.ext (hW6.trans hEr)).get (i := j) (by rw [HDL.out]; exact hjk)
              obtain ⟨bl, fl, rfl, hl1, _, _⟩ := (HVI.out.ext (hE6.trans hEr)).get hTl
              rw [HGD.out, ← hTn] at hd1
              generalize l.getD (T + j) 0 = dv at *
              clear hTn
              go_wp2_with fail
              go_quiet (fail)
              go_wp2_with fail
              exact ⟨⟨j + 1, by omega, by go_num, hEr.drewN _⟩, by simp [intOf]; omega⟩
            · go_wp2_with fail
              refine (awake_any _).mono ?_
              rintro e w7 ⟨rfl, hX7⟩
              go_wp2_with fail
              go_ret
              exact ⟨rfl, ((hE1.trans hE6).trans hEr).trans hX7⟩
end Go.Proofs.Ytcmnlnamgnbemaa
