/-
  THE WALK of law39.FramesCopy. (Printed by gen_fcopy.py.)
-/
import Derived.Test.YtgeppialbkijiaaFEx
import Derived.Test.YtgeppialbkijiaaSpoil
import Derived.Test.YtgeppialbkijiaaRRight
import Derived.Test.YtgeppialbkijiaaRegX
namespace Go.Proofs.Ytgeppialbkijiaa
set_option linter.unusedSimpArgs false
set_option linter.unusedVariables false
open Go.RowKit

theorem size_of_kept {w w' : World} {b : Nat} (hb : b < w'.heap.size) (hk : ∀ x, x < w.heap.size → x ≠ b → w'.heap[x]? = w.heap[x]?) : w.heap.size ≤ w'.heap.size := by
  rcases Nat.lt_or_ge w'.heap.size w.heap.size with h | h
  · have h1 := hk w'.heap.size h (by omega)
    rw [Array.getElem?_eq_none (Nat.le_refl _)] at h1
    rw [Array.getElem?_eq_getElem h] at h1
    cases h1
  · exact h
set_option maxRecDepth 100000 in
set_option maxHeartbeats 8000000 in
theorem fcopy_any (F : Nat → Prop) (t : Arr) (c0 c1 c2 c3 : Value) (w : World) (h : ArrAt F w t c0 c1 c2 c3) :
    Calls Try.prog 3 #[.agg #[c0, c1, c2, c3]] w fun e w' => e = .returned (.bool true) ∧ Ext w w' := by
  replace h : ArrAt (fun x => x < w.heap.size) w t c0 c1 c2 c3 := ArrAt.mono (fun x _ hlt => ⟨hlt, rfl⟩) _ _ _ _ _ h
  obtain ⟨kk, p1, l1, n1, p2, l2, n2, p3, l3, n3, rfl, rfl, rfl, rfl⟩ := h.form
  have HA := Lib.hid h
  clear h
  go_enter Try.func3, Try.ntmps3
  go_upto_region 1 with (fail)
  have hE0 : Ext w (w.alloc (.cells #[.int .i64 kk, .slice p1 l1 n1, .slice p2 l2 n2, .slice p3 l3 n3] 26)) := (Ext.refl _).alloc _
  have hB := box_new w (.int .i64 kk) (.slice p1 l1 n1) (.slice p2 l2 n2) (.slice p3 l3 n3)
  generalize w.alloc (.cells #[.int .i64 kk, .slice p1 l1 n1, .slice p2 l2 n2, .slice p3 l3 n3] 26) = w1 at hE0 hB ⊢
  generalize hbx : w.heap.size = bx at hB ⊢
  have HBX := Lib.hid (show w.heap.size = bx from hbx)
  clear hbx
  have HB := Lib.hid hB
  have HE := Lib.hid hE0
  replace HA := Lib.hid (HA.out.ext hE0)
  clear hB hE0
  obtain ⟨s0, s1, s2, s3⟩ := HB.out.cell
  go_wp2_with fail
  refine (small3_any _ t _ _ _ _ w1 HA.out).mono ?_
  rintro e w2 ⟨⟨sm, rfl⟩, hE2⟩
  replace HA := Lib.hid (HA.out.ext hE2)
  replace HB := Lib.hid (HB.out.ext hE2)
  replace HE := Lib.hid (HE.out.trans hE2)
  clear hE2 s0 s1 s2 s3
  obtain ⟨s0, s1, s2, s3⟩ := HB.out.cell
  cases sm
  · go_wp2_with fail
    refine (fexample_any _).mono ?_
    rintro e wl ⟨rfl, hEl⟩
    go_wp2_with fail
    go_ret
    exact ⟨rfl, HE.out.trans hEl⟩
  have hRR := rright6_any _ t _ _ _ _ w2 HA.out
  by_cases hr0 : rightV t = 0
  rotate_left
  · generalize rightV t = rv at *
    have HRR := Lib.hid hRR
    clear hRR
    go_wp2_with fail
    refine HRR.out.mono ?_
    rintro e w3 ⟨rfl, hE3⟩
    go_wp2_with fail
    refine (fexample_any _).mono ?_
    rintro e wl ⟨rfl, hEl⟩
    go_wp2_with fail
    go_ret
    exact ⟨rfl, (HE.out.trans hE3).trans hEl⟩
  have HSO := Lib.hid (show setOk [.no] 0 t = true by simp [setOk, hr0])
  have HSV := Lib.hid (show setV [.no] 0 t = [.arr t] by unfold setV; rw [if_pos HSO.out]; rfl)
  rw [hr0] at hRR
  have HRR := Lib.hid hRR
  clear hRR hr0
  go_wp2_with fail
  refine HRR.out.mono ?_
  rintro e w3 ⟨rfl, hE3⟩
  replace HA := Lib.hid (HA.out.ext hE3)
  replace HB := Lib.hid (HB.out.ext hE3)
  replace HE := Lib.hid (HE.out.trans hE3)
  clear hE3 s0 s1 s2 s3 HRR
  obtain ⟨s0, s1, s2, s3⟩ := HB.out.cell
  go_wp2_with fail
  refine (Fz.rclone_any _ _ t _ _ _ _ w3 (Nat.lt_succ_self _) HA.out).mono ?_
  rintro e w4 ⟨m0, m1, m2, m3, rfl, hC, hE4⟩
  obtain ⟨mk, mp1, ml1, mc1, mp2, ml2, mc2, mp3, ml3, mc3, rfl, rfl, rfl, rfl⟩ := hC.form
  replace hC : ArrAt (fun q => (w3.heap.size ≤ q ∧ q < w4.heap.size) ∧ Fz.NoFz w4 q) w4 t _ _ _ _ := ArrAt.mono (fun q hq hlt => ⟨⟨⟨hq.1, hlt⟩, hq.2⟩, rfl⟩) _ _ _ _ _ hC
  have Z1 := Lib.hid (show w.heap.size ≤ w3.heap.size ∧ bx < w3.heap.size from ⟨HE.out.lt, HB.out.lt⟩)
  have Z2 := Lib.hid (show w3.heap.size ≤ w4.heap.size from hE4.lt)
  replace HA := Lib.hid (HA.out.ext hE4)
  replace HB := Lib.hid (HB.out.ext hE4)
  replace HE := Lib.hid (HE.out.trans hE4)
  have HC := Lib.hid hC
  clear hC hE4 s0 s1 s2 s3
  go_upto_region 4 with (fail)
  have hE5 : Ext w4 (w4.alloc (.cells #[.int .i64 mk, .slice mp1 ml1 mc1, .slice mp2 ml2 mc2, .slice mp3 ml3 mc3] 26)) := (Ext.refl _).alloc _
  have hbm := box_new w4 (.int .i64 mk) (.slice mp1 ml1 mc1) (.slice mp2 ml2 mc2) (.slice mp3 ml3 mc3)
  generalize w4.alloc (.cells #[.int .i64 mk, .slice mp1 ml1 mc1, .slice mp2 ml2 mc2, .slice mp3 ml3 mc3] 26) = w5 at hE5 hbm ⊢
  generalize hbn : w4.heap.size = bm at hbm ⊢
  have HBN := Lib.hid (show w4.heap.size = bm from hbn)
  clear hbn
  have Z3 := Lib.hid (show bm < w5.heap.size from hbm.lt)
  replace HA := Lib.hid (HA.out.ext hE5)
  replace HB := Lib.hid (HB.out.ext hE5)
  replace HE := Lib.hid (HE.out.trans hE5)
  replace HC := Lib.hid (Fz.ArrAt.extF HC.out hE5)
  have HM := Lib.hid hbm
  clear hE5 hbm
  go_wp2_with fail
  refine (new_any 1 none w5 (by decide)).mono ?_
  rintro e w6 ⟨b, rfl, hf, hE6⟩
  have hf : FrAt (fun x => w5.heap.size ≤ x) w6 b [.no] none := hf
  have Z4 := Lib.hid (show w5.heap.size ≤ b ∧ b < w6.heap.size ∧ w5.heap.size ≤ w6.heap.size from ⟨hf.fb, hf.lt, hE6.lt⟩)
  replace HA := Lib.hid (HA.out.ext hE6)
  replace HB := Lib.hid (HB.out.ext hE6)
  replace HE := Lib.hid (HE.out.trans hE6)
  replace HC := Lib.hid (Fz.ArrAt.extF HC.out hE6)
  replace HM := Lib.hid (HM.out.ext hE6)
  have HFR := Lib.hid hf
  clear hE6 hf
  obtain ⟨s0, s1, s2, s3⟩ := HM.out.cell
  go_wp2_with fail
  refine (set_rd HE.out (b := b) (by have := Z1.out; have := Z2.out; have := HBN.out; have := Z3.out; have := Z4.out; omega) HFR.out HC.out (by decide) HSO.out HSV.out).mono ?_
  rintro e w7 ⟨rfl, hf, hE7, hk⟩
  have Z5 := Lib.hid (show w6.heap.size ≤ w7.heap.size ∧ b < w7.heap.size from ⟨size_of_kept hf.lt hk, hf.lt⟩)
  have HFR7 : Hid (FrAt (fun x => w5.heap.size ≤ x ∧ x < w7.heap.size) w7 b [.arr t] none) := Lib.hid (hf.mono fun x hx hlt => ⟨⟨hx.elim id (fun h => by have := Z1.out; have := Z2.out; have := HBN.out; have := Z3.out; have := Z4.out; omega), hlt⟩, rfl⟩)
  replace HA := Lib.hid (ArrAt.mono (G := fun x => x < w.heap.size) (w' := w7) (fun x hx hlt => ⟨hx, hk x hlt (by have := Z1.out; have := Z2.out; have := HBN.out; have := Z3.out; have := Z4.out; omega)⟩) _ _ _ _ _ HA.out)
  replace HB := Lib.hid (HB.out.kept (hk bx (by have := Z1.out; have := Z2.out; have := HBN.out; have := Z3.out; have := Z4.out; omega) (by have := Z1.out; have := Z2.out; have := HBN.out; have := Z3.out; have := Z4.out; omega)))
  replace HM := Lib.hid (HM.out.kept (hk bm (by have := Z1.out; have := Z2.out; have := HBN.out; have := Z3.out; have := Z4.out; omega) (by have := Z1.out; have := Z2.out; have := HBN.out; have := Z3.out; have := Z4.out; omega)))
  replace HC := Lib.hid (ArrAt.mono (G := fun q => (w3.heap.size ≤ q ∧ q < w4.heap.size) ∧ Fz.NoFz w7 q) (w' := w7) (fun x hx hlt => ⟨⟨hx.1, hx.2.kept (hk x hlt (by have := Z1.out; have := Z2.out; have := HBN.out; have := Z3.out; have := Z4.out; have := hx.1; omega))⟩, hk x hlt (by have := Z1.out; have := Z2.out; have := HBN.out; have := Z3.out; have := Z4.out; have := hx.1; omega)⟩) _ _ _ _ _ HC.out)
  replace HE := Lib.hid hE7
  clear hf hE7 hk HFR s0 s1 s2 s3 HSO HSV
  obtain ⟨HFR, _⟩ : Hid (FrAt (fun x => w5.heap.size ≤ x ∧ x < w7.heap.size) w7 b [.arr t] none) ∧ True := ⟨HFR7, trivial⟩
  clear HFR7
  obtain ⟨s0, s1, s2, s3⟩ := HM.out.cell
  have HSP := Lib.hid (spoil_any (fun q => w3.heap.size ≤ q ∧ q < w4.heap.size) w (fun x hx => by have := Z1.out; have := Z2.out; have := HBN.out; have := Z3.out; have := Z4.out; have := Z5.out; have := hx.1; omega) _ (skOf t) _ _ _ _ w7 (Nat.lt_succ_self _) HE.out (ArrAt.sk t _ _ _ _ HC.out))
  go_wp2_with fail
  refine HSP.out.mono ?_
  rintro e w8 ⟨rfl, hEx, hT⟩
  replace HE := Lib.hid hEx
  replace HA := Lib.hid (ArrAt.mono (G := fun x => x < w.heap.size) (w' := w8) (fun x hx hlt => ⟨hx, hT.far x hlt (fun hz => by have := Z1.out; have := Z2.out; have := HBN.out; have := Z3.out; have := Z4.out; have := Z5.out; have := hz.1; omega)⟩) _ _ _ _ _ HA.out)
  replace HB := Lib.hid (HB.out.kept (hT.far bx HB.out.lt (fun hz => by have := Z1.out; have := Z2.out; have := HBN.out; have := Z3.out; have := Z4.out; have := Z5.out; have := hz.1; omega)))
  replace HFR := Lib.hid (HFR.out.mono (G := fun x => w5.heap.size ≤ x ∧ x < w7.heap.size) (w' := w8) fun x hx hlt => ⟨hx, hT.far x hlt (fun hz => by have := Z1.out; have := Z2.out; have := HBN.out; have := Z3.out; have := Z4.out; have := Z5.out; have := hz.1; have := hz.2; omega)⟩)
  have Z6 := Lib.hid (show w7.heap.size ≤ w8.heap.size from hT.size)
  clear hEx hT HSP HC HM s0 s1 s2 s3
  have hg := get_anyF (fun x => w5.heap.size ≤ x ∧ x < w7.heap.size) (some ⟨b, 0, none⟩) [(b, [.arr t])] (by simp) 0 0 w8 ⟨none, rfl, HFR.out, rfl⟩ (by decide) (by decide)
  rw [show getV [(b, [.arr t])] 0 0 = some t from rfl] at hg
  simp only [Option.isSome_some, Option.getD_some] at hg
  have HG := Lib.hid hg
  clear hg
  go_wp2_with fail
  refine HG.out.mono ?_
  rintro e w9 ⟨g0, g1, g2, g3, rfl, hG, hEx⟩
  obtain ⟨gk, gp1, gl1, gc1, gp2, gl2, gc2, gp3, gl3, gc3, rfl, rfl, rfl, rfl⟩ := hG.form
  clear HG
  have Z7 := Lib.hid (show w8.heap.size ≤ w9.heap.size from hEx.lt)
  replace hG : ArrAt (fun q => (w8.heap.size ≤ q ∧ q < w9.heap.size) ∧ Fz.NoFz w9 q) w9 t _ _ _ _ := ArrAt.mono (fun q hq hlt => ⟨⟨⟨hq.1, hlt⟩, hq.2⟩, rfl⟩) _ _ _ _ _ hG
  go_upto_region 9 with (fail)
  have eb : Ext w9 (w9.alloc (.cells #[.int .i64 gk, .slice gp1 gl1 gc1, .slice gp2 gl2 gc2, .slice gp3 gl3 gc3, .nilIface] 38)) := (Ext.refl _).alloc _
  have rb := RowC.new 38 w9 [.int .i64 gk, .slice gp1 gl1 gc1, .slice gp2 gl2 gc2, .slice gp3 gl3 gc3, .nilIface]
  change RowC _ (w9.alloc (.cells #[.int .i64 gk, .slice gp1 gl1 gc1, .slice gp2 gl2 gc2, .slice gp3 gl3 gc3, .nilIface] 38)) _ _ at rb
  generalize w9.alloc (.cells #[.int .i64 gk, .slice gp1 gl1 gc1, .slice gp2 gl2 gc2, .slice gp3 gl3 gc3, .nilIface] 38) = w10 at *
  generalize hbv : w9.heap.size = bv at rb ⊢
  have HBV := Lib.hid (show w9.heap.size = bv from hbv)
  clear hbv
  have Z8 := Lib.hid (show bv < w10.heap.size from rb.lt)
  have HC := Lib.hid (Fz.ArrAt.extF hG eb)
  have R3 := Lib.hid rb
  replace eb := hEx.trans eb
  replace HA := Lib.hid (HA.out.ext eb)
  replace HB := Lib.hid (HB.out.ext eb)
  replace HFR := Lib.hid (HFR.out.ext eb)
  replace HE := Lib.hid (HE.out.trans eb)
  clear hG rb eb hEx
  obtain ⟨s0, s1, s2, s3⟩ := HB.out.cell
  obtain ⟨v0, v1, v2, v3, v4⟩ := R3.out.cell5
  go_wp2_with fail
  refine (same_true (Rd.mk HC.out) (Rd.mk HA.out) rfl rfl).mono ?_
  rintro e w11 ⟨rfl, hEx⟩
  have Z9 := Lib.hid (show w10.heap.size ≤ w11.heap.size from hEx.lt)
  replace HC := Lib.hid (Fz.ArrAt.extF HC.out hEx)
  replace HA := Lib.hid (HA.out.ext hEx)
  replace HB := Lib.hid (HB.out.ext hEx)
  replace HFR := Lib.hid (HFR.out.ext hEx)
  replace HE := Lib.hid (HE.out.trans hEx)
  replace R3 := Lib.hid (R3.out.ext hEx)
  clear hEx s0 s1 s2 s3 v0 v1 v2 v3 v4
  obtain ⟨v0, v1, v2, v3, v4⟩ := R3.out.cell5
  have HSP := Lib.hid (spoil_any (fun q => w8.heap.size ≤ q ∧ q < w9.heap.size) w (fun x hx => by have := Z1.out; have := Z2.out; have := HBN.out; have := Z3.out; have := Z4.out; have := Z5.out; have := Z6.out; have := Z7.out; have := HBV.out; have := Z8.out; have := Z9.out; have := hx.1; omega) _ (skOf t) _ _ _ _ w11 (Nat.lt_succ_self _) HE.out (ArrAt.sk t _ _ _ _ HC.out))
  go_wp2_with fail
  refine HSP.out.mono ?_
  rintro e w12 ⟨rfl, hEx, hT⟩
  replace HE := Lib.hid hEx
  replace HA := Lib.hid (ArrAt.mono (G := fun x => x < w.heap.size) (w' := w12) (fun x hx hlt => ⟨hx, hT.far x hlt (fun hz => by have := Z1.out; have := Z2.out; have := HBN.out; have := Z3.out; have := Z4.out; have := Z5.out; have := Z6.out; have := Z7.out; have := HBV.out; have := Z8.out; have := Z9.out; have := hz.1; omega)⟩) _ _ _ _ _ HA.out)
  replace HB := Lib.hid (HB.out.kept (hT.far bx HB.out.lt (fun hz => by have := Z1.out; have := Z2.out; have := HBN.out; have := Z3.out; have := Z4.out; have := Z5.out; have := Z6.out; have := Z7.out; have := HBV.out; have := Z8.out; have := Z9.out; have := hz.1; omega)))
  replace HFR := Lib.hid (HFR.out.mono (G := fun x => w5.heap.size ≤ x ∧ x < w7.heap.size) (w' := w12) fun x hx hlt => ⟨hx, hT.far x hlt (fun hz => by have := Z1.out; have := Z2.out; have := HBN.out; have := Z3.out; have := Z4.out; have := Z5.out; have := Z6.out; have := Z7.out; have := HBV.out; have := Z8.out; have := Z9.out; have := hz.1; have := hz.2; omega)⟩)
  replace R3 := Lib.hid (R3.out.kept (hT.far bv R3.out.lt (fun hz => by have := Z1.out; have := Z2.out; have := HBN.out; have := Z3.out; have := Z4.out; have := Z5.out; have := Z6.out; have := Z7.out; have := HBV.out; have := Z8.out; have := Z9.out; have := hz.1; have := hz.2; omega)))
  have ZA := Lib.hid (show w11.heap.size ≤ w12.heap.size from hT.size)
  clear hEx hT HSP HC v0 v1 v2 v3 v4
  have hg := arrs_anyF (fun x => w5.heap.size ≤ x ∧ x < w7.heap.size) (some ⟨b, 0, none⟩) [(b, [.arr t])] (by simp) w12 ⟨none, rfl, HFR.out, rfl⟩
  rw [show frArrs [(b, [.arr t])] = [t] from rfl] at hg
  have HG := Lib.hid hg
  clear hg
  go_wp2_with fail
  refine HG.out.mono ?_
  rintro e w13 ⟨pl, cl, rfl, hok, hI, hEx⟩
  clear HG hok
  have hI2 : ItemsAt (fun q => (w12.heap.size ≤ q ∧ q < w13.heap.size) ∧ Fz.NoFz w13 q) w13 pl 0 [t] := ItemsAt.mono (fun q hq hlt => ⟨⟨⟨hq.1, hlt⟩, hq.2⟩, rfl⟩) _ _ _ hI
  obtain ⟨bl, ol, l0, l1, l2, l3, hp, _, i0, i1, i2, i3, hA0⟩ := ItemsAt.get _ _ 0 0 hI2 (by simp)
  subst hp
  simp only [Nat.zero_add, Nat.zero_mul, Nat.add_zero, List.getElem_cons_zero] at i0 i1 i2 i3 hA0
  obtain ⟨gk, gp1, gl1, gc1, gp2, gl2, gc2, gp3, gl3, gc3, rfl, rfl, rfl, rfl⟩ := hA0.form
  have HC := Lib.hid hA0
  have HI := Lib.hid (And.intro i0 (And.intro i1 (And.intro i2 i3)))
  have ZB := Lib.hid (show w12.heap.size ≤ w13.heap.size from hEx.lt)
  replace HA := Lib.hid (HA.out.ext hEx)
  replace HB := Lib.hid (HB.out.ext hEx)
  replace HFR := Lib.hid (HFR.out.ext hEx)
  replace HE := Lib.hid (HE.out.trans hEx)
  replace R3 := Lib.hid (R3.out.ext hEx)
  clear hI hI2 hA0 hEx i0 i1 i2 i3
  go_upto_region 13 with (fail)
  go_cut [53] (fun v wx => v = .bool false ∧ Ext w13 wx)
  case first =>
    refine wp_region_x0 [MProp.is (.slice (some ⟨bl, ol, none⟩) 1 cl), MProp.is (.int .i64 1), MProp.is (.bool false), MProp.is (.bool false), MProp.is (.slice (some ⟨bl, ol, none⟩) 1 cl), MProp.is (.pointer (some ⟨bl, ol, none⟩)), MProp.is (.agg #[.int .i64 gk, .slice gp1 gl1 gc1, .slice gp2 gl2 gc2, .slice gp3 gl3 gc3]), MProp.is (.agg #[.int .i64 kk, .slice p1 l1 n1, .slice p2 l2 n2, .slice p3 l3 n3]), MProp.is (.bool true), MProp.is (.bool false), MProp.is (.bool false)] [0, 1, 2, 3, 4, 5, 6, 7, 8, 9, 10] [] [43, 44, 45, 46, 47, 48, 49, 50, 51, 52, 53] (by kernel_rfl) (by kernel_rfl) (by kernel_rfl) ?_ ?_ ?_
    · refine mem_cons_m ?_ (mem_cons_m ?_ (mem_cons_m ?_ (mem_cons_m ?_ (mem_cons_m ?_ (mem_cons_m ?_ (mem_cons_m ?_ (mem_cons_m ?_ (mem_cons_m ?_ (mem_cons_m ?_ (mem_cons_m ?_ (mem_nil_m)))))))))))
      · refine ⟨_, 43, rfl, by kernel_rfl, ?_⟩
        intro u w9 X hE hX hd K hK
        clear hd
        simp only [overlay, List.setIfInBounds_toArray, List.set] at hK ⊢
        go_wp2_with fail
        exact hK _ _ X (Ext.refl _) kept_m hX rfl
      · refine ⟨_, 44, rfl, by kernel_rfl, ?_⟩
        intro u w9 X hE hX hd K hK
        have d0 : u 43 = .slice (some ⟨bl, ol, none⟩) 1 cl := hd 0 (by kernel_rfl)
        clear hd
        simp only [overlay, List.setIfInBounds_toArray, List.set, d0] at hK ⊢
        go_wp2_with fail
        exact hK _ _ X (Ext.refl _) kept_m hX rfl
      · refine ⟨_, 45, rfl, by kernel_rfl, ?_⟩
        intro u w9 X hE hX hd K hK
        have d1 : u 44 = .int .i64 1 := hd 1 (by kernel_rfl)
        clear hd
        simp only [overlay, List.setIfInBounds_toArray, List.set, d1] at hK ⊢
        go_wp2_with fail
        exact hK _ _ X (Ext.refl _) kept_m hX rfl
      · refine ⟨_, 46, rfl, by kernel_rfl, ?_⟩
        intro u w9 X hE hX hd K hK
        have d2 : u 45 = .bool false := hd 2 (by kernel_rfl)
        clear hd
        simp only [overlay, List.setIfInBounds_toArray, List.set, d2] at hK ⊢
        go_wp2_with fail
        exact hK _ _ X (Ext.refl _) kept_m hX rfl
      · refine ⟨_, 47, rfl, by kernel_rfl, ?_⟩
        intro u w9 X hE hX hd K hK
        have d3 : u 46 = .bool false := hd 3 (by kernel_rfl)
        clear hd
        simp only [overlay, List.setIfInBounds_toArray, List.set, d3] at hK ⊢
        go_wp2_with fail
        exact hK _ _ X (Ext.refl _) kept_m hX rfl
      · refine ⟨_, 48, rfl, by kernel_rfl, ?_⟩
        intro u w9 X hE hX hd K hK
        have d4 : u 47 = .slice (some ⟨bl, ol, none⟩) 1 cl := hd 4 (by kernel_rfl)
        have d3 : u 46 = .bool false := hd 3 (by kernel_rfl)
        clear hd
        simp only [overlay, List.setIfInBounds_toArray, List.set, d4, d3] at hK ⊢
        go_wp2_with fail
        exact hK _ _ X (Ext.refl _) kept_m hX rfl
      · refine ⟨_, 49, rfl, by kernel_rfl, ?_⟩
        intro u w9 X hE hX hd K hK
        have d5 : u 48 = .pointer (some ⟨bl, ol, none⟩) := hd 5 (by kernel_rfl)
        have d3 : u 46 = .bool false := hd 3 (by kernel_rfl)
        clear hd
        simp only [overlay, List.setIfInBounds_toArray, List.set, d5, d3] at hK ⊢
        have e9 : Ext w13 w9 := (Ext.refl w13).drew.trans hE
        obtain ⟨i0, i1, i2, i3⟩ := HI.out
        have j0 := e9.cell i0
        have j1 := e9.cell i1
        have j2 := e9.cell i2
        have j3 := e9.cell i3
        clear i0 i1 i2 i3
        go_wp2_with fail
        exact hK _ _ X (Ext.refl _) kept_m hX rfl
      · refine ⟨_, 50, rfl, by kernel_rfl, ?_⟩
        intro u w9 X hE hX hd K hK
        have d3 : u 46 = .bool false := hd 3 (by kernel_rfl)
        clear hd
        simp only [overlay, List.setIfInBounds_toArray, List.set, d3] at hK ⊢
        have e9 : Ext w13 w9 := (Ext.refl w13).drew.trans hE
        obtain ⟨s0, s1, s2, s3⟩ := (HB.out.ext e9).cell
        go_wp2_with fail
        exact hK _ _ X (Ext.refl _) kept_m hX rfl
      · refine ⟨_, 51, rfl, by kernel_rfl, ?_⟩
        intro u w9 X hE hX hd K hK
        have d6 : u 49 = .agg #[.int .i64 gk, .slice gp1 gl1 gc1, .slice gp2 gl2 gc2, .slice gp3 gl3 gc3] := hd 6 (by kernel_rfl)
        have d7 : u 50 = .agg #[.int .i64 kk, .slice p1 l1 n1, .slice p2 l2 n2, .slice p3 l3 n3] := hd 7 (by kernel_rfl)
        have d3 : u 46 = .bool false := hd 3 (by kernel_rfl)
        clear hd
        simp only [overlay, List.setIfInBounds_toArray, List.set, d6, d7, d3] at hK ⊢
        have e9 : Ext w13 w9 := (Ext.refl w13).drew.trans hE
        go_wp2_with fail
        refine (same_true (Rd.mk (HC.out.ext e9)) (Rd.mk (HA.out.ext e9)) rfl rfl).mono ?_
        rintro e w8 ⟨rfl, hE8⟩
        go_wp2_with fail
        exact hK _ _ X hE8 kept_m (hX.ext hE8) rfl
      · refine ⟨_, 52, rfl, by kernel_rfl, ?_⟩
        intro u w9 X hE hX hd K hK
        have d8 : u 51 = .bool true := hd 8 (by kernel_rfl)
        have d3 : u 46 = .bool false := hd 3 (by kernel_rfl)
        clear hd
        simp only [overlay, List.setIfInBounds_toArray, List.set, d8, d3] at hK ⊢
        go_wp2_with fail
        exact hK _ _ X (Ext.refl _) kept_m hX rfl
      · refine ⟨_, 53, rfl, by kernel_rfl, ?_⟩
        intro u w9 X hE hX hd K hK
        have d3 : u 46 = .bool false := hd 3 (by kernel_rfl)
        have d9 : u 52 = .bool false := hd 9 (by kernel_rfl)
        clear hd
        simp only [overlay, List.setIfInBounds_toArray, List.set, d3, d9] at hK ⊢
        go_wp2_with fail
        exact hK _ _ X (Ext.refl _) kept_m hX rfl
    · exact mem_nil_m
    intro u w9 X hE hX hd
    have d0 : u 43 = .slice (some ⟨bl, ol, none⟩) 1 cl := hd 0 (by decide)
    have d1 : u 44 = .int .i64 1 := hd 1 (by decide)
    have d2 : u 45 = .bool false := hd 2 (by decide)
    have d3 : u 46 = .bool false := hd 3 (by decide)
    have d4 : u 47 = .slice (some ⟨bl, ol, none⟩) 1 cl := hd 4 (by decide)
    have d5 : u 48 = .pointer (some ⟨bl, ol, none⟩) := hd 5 (by decide)
    have d6 : u 49 = .agg #[.int .i64 gk, .slice gp1 gl1 gc1, .slice gp2 gl2 gc2, .slice gp3 gl3 gc3] := hd 6 (by decide)
    have d7 : u 50 = .agg #[.int .i64 kk, .slice p1 l1 n1, .slice p2 l2 n2, .slice p3 l3 n3] := hd 7 (by decide)
    have d8 : u 51 = .bool true := hd 8 (by decide)
    have d9 : u 52 = .bool false := hd 9 (by decide)
    have d10 : u 53 = .bool false := hd 10 (by decide)
    clear hd
    simp only [overlay, List.setIfInBounds_toArray, List.set, d0, d1, d2, d3, d4, d5, d6, d7, d8, d9, d10]
    have e9 : Ext w13 w9 := (Ext.refl w13).drew.trans hE
    clear hE hX d0 d1 d2 d3 d4 d5 d6 d7 d8 d9 d10
    go_wp2_with fail
    go_meet
    case rel => exact ⟨rfl, e9⟩
  case rest =>
  obtain ⟨rfl, hEx⟩ := hcut
  obtain ⟨w14, rfl⟩ : ∃ wx : World, wx = wc := ⟨_, rfl⟩
  have ZC := Lib.hid (show w13.heap.size ≤ w14.heap.size from hEx.lt)
  replace HC := Lib.hid (Fz.ArrAt.extF HC.out hEx)
  obtain ⟨i0, i1, i2, i3⟩ := HI.out
  replace i0 := hEx.cell i0
  replace i1 := hEx.cell i1
  replace i2 := hEx.cell i2
  replace i3 := hEx.cell i3
  replace HA := Lib.hid (HA.out.ext hEx)
  replace HB := Lib.hid (HB.out.ext hEx)
  replace HFR := Lib.hid (HFR.out.ext hEx)
  replace HE := Lib.hid (HE.out.trans hEx)
  replace R3 := Lib.hid (R3.out.ext hEx)
  clear hEx HI
  have HSP := Lib.hid (spoil_any (fun q => w12.heap.size ≤ q ∧ q < w13.heap.size) w (fun x hx => by have := Z1.out; have := Z2.out; have := HBN.out; have := Z3.out; have := Z4.out; have := Z5.out; have := Z6.out; have := Z7.out; have := HBV.out; have := Z8.out; have := Z9.out; have := ZA.out; have := ZB.out; have := ZC.out; have := hx.1; omega) _ (skOf t) _ _ _ _ w14 (Nat.lt_succ_self _) HE.out (ArrAt.sk t _ _ _ _ HC.out))
  go_wp2_with fail
  refine HSP.out.mono ?_
  rintro e w15 ⟨rfl, hEx, hT⟩
  replace HE := Lib.hid hEx
  replace HA := Lib.hid (ArrAt.mono (G := fun x => x < w.heap.size) (w' := w15) (fun x hx hlt => ⟨hx, hT.far x hlt (fun hz => by have := Z1.out; have := Z2.out; have := HBN.out; have := Z3.out; have := Z4.out; have := Z5.out; have := Z6.out; have := Z7.out; have := HBV.out; have := Z8.out; have := Z9.out; have := ZA.out; have := ZB.out; have := ZC.out; have := hz.1; omega)⟩) _ _ _ _ _ HA.out)
  replace HB := Lib.hid (HB.out.kept (hT.far bx HB.out.lt (fun hz => by have := Z1.out; have := Z2.out; have := HBN.out; have := Z3.out; have := Z4.out; have := Z5.out; have := Z6.out; have := Z7.out; have := HBV.out; have := Z8.out; have := Z9.out; have := ZA.out; have := ZB.out; have := ZC.out; have := hz.1; omega)))
  replace HFR := Lib.hid (HFR.out.mono (G := fun x => w5.heap.size ≤ x ∧ x < w7.heap.size) (w' := w15) fun x hx hlt => ⟨hx, hT.far x hlt (fun hz => by have := Z1.out; have := Z2.out; have := HBN.out; have := Z3.out; have := Z4.out; have := Z5.out; have := Z6.out; have := Z7.out; have := HBV.out; have := Z8.out; have := Z9.out; have := ZA.out; have := ZB.out; have := ZC.out; have := hz.1; have := hz.2; omega)⟩)
  replace R3 := Lib.hid (R3.out.kept (hT.far bv R3.out.lt (fun hz => by have := Z1.out; have := Z2.out; have := HBN.out; have := Z3.out; have := Z4.out; have := Z5.out; have := Z6.out; have := Z7.out; have := HBV.out; have := Z8.out; have := Z9.out; have := ZA.out; have := ZB.out; have := ZC.out; have := hz.1; have := hz.2; omega)))
  have ZD := Lib.hid (show w14.heap.size ≤ w15.heap.size from hT.size)
  clear hEx hT HSP HC i0 i1 i2 i3
  have hg := get_any (fun x => w5.heap.size ≤ x ∧ x < w7.heap.size) (some ⟨b, 0, none⟩) [(b, [.arr t])] (by simp) 0 0 w15 ⟨none, rfl, HFR.out, rfl⟩ (by decide) (by decide)
  rw [show getV [(b, [.arr t])] 0 0 = some t from rfl] at hg
  simp only [Option.isSome_some, Option.getD_some] at hg
  have HG := Lib.hid hg
  clear hg
  go_wp2_with fail
  refine HG.out.mono ?_
  rintro e w16 ⟨g0, g1, g2, g3, rfl, hG, hEx⟩
  obtain ⟨gk, gp1, gl1, gc1, gp2, gl2, gc2, gp3, gl3, gc3, rfl, rfl, rfl, rfl⟩ := hG.form
  clear HG
  replace HA := Lib.hid (HA.out.ext hEx)
  replace HB := Lib.hid (HB.out.ext hEx)
  replace HFR := Lib.hid (HFR.out.ext hEx)
  replace HE := Lib.hid (HE.out.trans hEx)
  replace R3 := Lib.hid (R3.out.ext hEx)
  have HC := Lib.hid hG
  clear hG hEx
  obtain ⟨x0, x1, x2, x3, x4⟩ := R3.out.cell5
  have y0 := R3.out.free 0
  have y1 := R3.out.free 1
  have y2 := R3.out.free 2
  have y3 := R3.out.free 3
  have y4 := R3.out.free 4
  obtain ⟨g1, g2, g3⟩ := R3.out.put5 HE.out (by have := Z1.out; have := Z2.out; have := HBN.out; have := Z3.out; have := Z4.out; have := Z5.out; have := Z6.out; have := Z7.out; have := HBV.out; have := Z8.out; have := Z9.out; have := ZA.out; have := ZB.out; have := ZC.out; have := ZD.out; have := HE.out.lt; omega) (.int .i64 gk) (.slice gp1 gl1 gc1) (.slice gp2 gl2 gc2) (.slice gp3 gl3 gc3) .nilIface
  have HP := Lib.hid (And.intro g1 (And.intro g2 g3))
  clear g1 g2 g3
  go_upto_region 17 with (fail)
  obtain ⟨g1, g2, g3⟩ := HP.out
  clear HP x0 x1 x2 x3 x4 y0 y1 y2 y3 y4 R3
  generalize (((((w16.setCell ⟨bv, 0, none⟩ (.int .i64 gk)).setCell ⟨bv, 1, none⟩ (.slice gp1 gl1 gc1)).setCell ⟨bv, 2, none⟩ (.slice gp2 gl2 gc2)).setCell ⟨bv, 3, none⟩ (.slice gp3 gl3 gc3)).setCell ⟨bv, 4, none⟩ .nilIface) = w17 at *
  have HA := Lib.hid (ArrAt.mono (G := fun x => x < w.heap.size) (w' := w17) (fun x hx hlt => ⟨hx, g3 x (by have := Z1.out; have := Z2.out; have := HBN.out; have := Z3.out; have := Z4.out; have := Z5.out; have := Z6.out; have := Z7.out; have := HBV.out; have := Z8.out; have := Z9.out; have := ZA.out; have := ZB.out; have := ZC.out; have := ZD.out; omega)⟩) _ _ _ _ _ HA.out)
  have HB := Lib.hid (HB.out.kept (g3 bx (by have := Z1.out; have := Z2.out; have := HBN.out; have := Z3.out; have := Z4.out; have := Z5.out; have := Z6.out; have := Z7.out; have := HBV.out; have := Z8.out; have := Z9.out; have := ZA.out; have := ZB.out; have := ZC.out; have := ZD.out; omega)))
  have HC := Lib.hid (ArrAt.mono (G := fun x => w15.heap.size ≤ x) (w' := w17) (fun x hx hlt => ⟨hx, g3 x (by have := Z1.out; have := Z2.out; have := HBN.out; have := Z3.out; have := Z4.out; have := Z5.out; have := Z6.out; have := Z7.out; have := HBV.out; have := Z8.out; have := Z9.out; have := ZA.out; have := ZB.out; have := ZC.out; have := ZD.out; omega)⟩) _ _ _ _ _ HC.out)
  have R3 := Lib.hid g2
  replace HE := Lib.hid g1
  clear g1 g2 g3
  obtain ⟨s0, s1, s2, s3⟩ := HB.out.cell
  obtain ⟨v0, v1, v2, v3, v4⟩ := R3.out.cell5
  go_wp2_with fail
  refine (same_true (Rd.mk HC.out) (Rd.mk HA.out) rfl rfl).mono ?_
  rintro e w18 ⟨rfl, hEx⟩
  go_wp2_with fail
  refine (fexample_any _).mono ?_
  rintro e wl ⟨rfl, hEl⟩
  go_wp2_with fail
  go_ret
  exact ⟨rfl, (HE.out.trans hEx).trans hEl⟩
end Go.Proofs.Ytgeppialbkijiaa
