/-
  THE WALK of law39.FramesOuter: it returns true, and turns nothing that was there.
-/
import Derived.Test.YtgeppialbkijiaaFEx
import Derived.Test.YtgeppialbkijiaaR3Few
import Derived.Test.YtgeppialbkijiaaRRight
namespace Go.Proofs.Ytgeppialbkijiaa
set_option linter.unusedSimpArgs false
set_option linter.unusedVariables false
open Go.RowKit

/-- Empty frames from p on, the last one within q. -/
def FrTo (F : Nat → Prop) (w : World) : Option Addr → List Nat → Option Addr → Prop
  | p, [], q => p = q
  | p, b :: r, q => ∃ q', p = some ⟨b, 0, none⟩ ∧ FrAt F w b [] q' ∧ FrTo F w q' r q
theorem FrTo.mono {F G : Nat → Prop} {w w' : World} (hF : ∀ x, F x → x < w.heap.size → G x ∧ w'.heap[x]? = w.heap[x]?) : ∀ {l : List Nat} {p q : Option Addr}, FrTo F w p l q → FrTo G w' p l q
  | [], _, _, h => h
  | _ :: _, _, _, ⟨q', hp, hf, hr⟩ => ⟨q', hp, hf.mono hF, FrTo.mono hF hr⟩
theorem FrTo.ext {F : Nat → Prop} {w w' : World} {l : List Nat} {p q : Option Addr} (h : FrTo F w p l q) (e : Ext w w') : FrTo F w' p l q := h.mono fun _ hf hlt => ⟨hf, e.block hlt⟩
def outL (l : List Nat) (b : Nat) (sl : List Slot) : List (Nat × List Slot) := l.map (fun x => (x, [])) ++ [(b, sl)]
theorem outL_len (l : List Nat) (b : Nat) (sl : List Slot) : (outL l b sl).length = l.length + 1 := by simp [outL]
theorem FrTo.join {F : Nat → Prop} {w : World} {b : Nat} {sl : List Slot} (hb : FrAt F w b sl none) : ∀ {l : List Nat} {p : Option Addr}, FrTo F w p l (some ⟨b, 0, none⟩) → IsFr F w p (outL l b sl)
  | [], _, h => ⟨none, h, hb, rfl⟩
  | _ :: _, _, ⟨q', hp, hf, hr⟩ => ⟨q', hp, hf, FrTo.join hb hr⟩
theorem outL_at (l : List Nat) (b : Nat) (sl : List Slot) (s : Int) : getV (outL l b sl) (l.length : Int) s = slotV sl s := by
  unfold getV outL
  rw [if_neg (by omega), Int.toNat_natCast, List.getElem?_append_right (by simp)]
  simp
theorem outL_past (l : List Nat) (b : Nat) (sl : List Slot) (s : Int) : getV (outL l b sl) ((l.length : Int) + 1) s = none := by
  unfold getV outL
  rw [if_neg (by omega), List.getElem?_eq_none (by simp)]
theorem slotV_set (s : Int) (t : Arr) : slotV (setV [.no, .no, .no] s t) s = if setOk [.no, .no, .no] s t = true then some t else none := by
  unfold setV
  by_cases h : setOk [.no, .no, .no] s t = true
  · rw [if_pos h, if_pos h]
    unfold setOk at h
    simp at h
    unfold slotV
    rw [if_neg (by omega)]
    have : s = 0 ∨ s = 1 ∨ s = 2 := by omega
    rcases this with rfl | rfl | rfl <;> rfl
  · rw [if_neg h, if_neg h]
    unfold slotV
    by_cases h0 : s < 0
    · rw [if_pos h0]
    · rw [if_neg h0]
      rcases h1 : s.toNat with _ | _ | _ | n <;> simp

set_option maxRecDepth 100000 in
set_option maxHeartbeats 8000000 in
theorem fouter_any (F : Nat → Prop) (t : Arr) (c0 c1 c2 c3 : Value) (n s : Int) (w : World) (h : ArrAt F w t c0 c1 c2 c3) (hn : 0 ≤ n ∧ n ≤ 255) (hs : -9223372036854775808 ≤ s ∧ s ≤ 9223372036854775807) :
    Calls Try.prog 5 #[.int .u8 n, .int .i64 s, .agg #[c0, c1, c2, c3]] w fun e w' => e = .returned (.bool true) ∧ Ext w w' := by
  replace h : ArrAt (fun x => x < w.heap.size) w t c0 c1 c2 c3 := ArrAt.mono (fun x _ hlt => ⟨hlt, rfl⟩) _ _ _ _ _ h
  obtain ⟨kk, p1, l1, n1, p2, l2, n2, p3, l3, n3, rfl, rfl, rfl, rfl⟩ := h.form
  have HA := Lib.hid h
  clear h
  go_enter Try.func5, Try.ntmps5
  go_upto_region 1 with (fail)
  have hE0 : Ext w (w.alloc (.cells #[.int .i64 kk, .slice p1 l1 n1, .slice p2 l2 n2, .slice p3 l3 n3] 26)) := (Ext.refl _).alloc _
  have hB := box_new w (.int .i64 kk) (.slice p1 l1 n1) (.slice p2 l2 n2) (.slice p3 l3 n3)
  generalize w.alloc (.cells #[.int .i64 kk, .slice p1 l1 n1, .slice p2 l2 n2, .slice p3 l3 n3] 26) = w1 at hE0 hB ⊢
  generalize hbx : w.heap.size = bx at hB ⊢
  have HBX := Lib.hid hbx
  clear hbx
  have HB := Lib.hid hB
  have HE := Lib.hid hE0
  replace HA := Lib.hid (HA.out.ext hE0)
  clear hB hE0
  obtain ⟨s0, s1, s2, s3⟩ := HB.out.cell
  go_wp2_with fail
  refine (small3_any _ t _ _ _ _ w1 HA.out).mono ?_
  rintro e w2 ⟨⟨sm, rfl⟩, hE2⟩
  replace HA := Lib.hid (HA.out.ext hE2)
  replace HB := Lib.hid (HB.out.ext hE2)
  replace HE := Lib.hid (HE.out.trans hE2)
  clear hE2 s0 s1 s2 s3
  cases sm
  · go_wp2_with fail
    refine (fexample_any _).mono ?_
    rintro e wl ⟨rfl, hEl⟩
    go_wp2_with fail
    go_ret
    exact ⟨rfl, HE.out.trans hEl⟩
  go_upto_region 3 with (fail)
  go_cut [7] (fun v wx => (∃ m : Nat, m < 40 ∧ v = .int .i64 m) ∧ wx = w2)
  case first =>
    go_wp2_with fail
    go_meet
    case rel => exact ⟨⟨(n % 40).toNat, by omega, by rw [Int.toNat_of_nonneg (by omega)]⟩, rfl⟩
  case rest =>
  obtain ⟨⟨m, hm, rfl⟩, hwc⟩ := hcut
  subst hwc
  obtain ⟨w2, rfl⟩ : ∃ wx : World, wx = wc := ⟨_, rfl⟩
  clear hn
  go_wp2_with fail
  refine (new_any 3 none w2 (by decide)).mono ?_
  rintro e w3 ⟨b, rfl, hf, hE3⟩
  have HBF := Lib.hid (show w.heap.size ≤ b from Nat.le_trans HE.out.lt hf.fb)
  have HBL := Lib.hid (show b < w3.heap.size from hf.lt)
  have HNB := Lib.hid (show bx ≠ b from fun e => by have := hf.fb; have := HB.out.lt; omega)
  have HF0 : Hid (FrAt (fun x => w.heap.size ≤ x ∧ x < w3.heap.size) w3 b [.no, .no, .no] none) := Lib.hid (hf.mono fun x hx hlt => ⟨⟨Nat.le_trans HE.out.lt hx, hlt⟩, rfl⟩)
  replace HA := Lib.hid (HA.out.ext hE3)
  replace HB := Lib.hid (HB.out.ext hE3)
  replace HE := Lib.hid (HE.out.trans hE3)
  clear hE3 hf
  go_wp2_with fail
  go_loopw [9, 10] (fun inv i wr => ∃ (j : Nat) (l : List Nat) (p : Option Addr), j ≤ m ∧ Hid (l.length = j) ∧ i = .int .i64 j ∧ inv = .pointer p ∧ Ext w3 wr ∧ Hid (FrTo (fun x => w3.heap.size ≤ x) wr p l (some ⟨b, 0, none⟩))) (fun _ i _ => m - (intOf i).toNat)
  case atStart => exact ⟨0, [], _, Nat.zero_le _, Lib.hid rfl, rfl, rfl, Ext.refl _, Lib.hid rfl⟩
  case round =>
  obtain ⟨j, l, p, hj, HLN, rfl, rfl, hE4, HFR⟩ := hrel
  by_cases hlt : j < m
  · go_wp2_with fail
    refine (new_any 0 p wr (by decide)).mono ?_
    rintro e w5 ⟨b5, rfl, hf5, hE5⟩
    have hnew : FrTo (fun x => w3.heap.size ≤ x) w5 (some ⟨b5, 0, none⟩) (b5 :: l) (some ⟨b, 0, none⟩) := ⟨p, rfl, hf5.mono fun x hx _ => ⟨Nat.le_trans hE4.lt hx, rfl⟩, HFR.out.ext hE5⟩
    have HNEW := Lib.hid hnew
    clear hnew hf5
    go_wp2_with fail
    go_roundw
    case rel => exact ⟨j + 1, b5 :: l, _, by omega, Lib.hid (by rw [List.length_cons, HLN.out]), by go_num, rfl, hE4.trans hE5, HNEW⟩
    case measure => simp [intOf]; omega
  obtain rfl : j = m := by omega
  clear hlt hj
  replace HA := Lib.hid (HA.out.ext hE4)
  replace HB := Lib.hid (HB.out.ext hE4)
  replace HE := Lib.hid (HE.out.trans hE4)
  replace HF0 := Lib.hid (HF0.out.ext hE4)
  have HW3 := Lib.hid (show w.heap.size ≤ w3.heap.size ∧ w3.heap.size ≤ wr.heap.size from ⟨by have := HBF.out; have := HBL.out; omega, hE4.lt⟩)
  clear hE4
  obtain ⟨w4, rfl⟩ : ∃ wx : World, wx = wr := ⟨_, rfl⟩
  go_upto_region 10 with (fail)
  go_cut [11] (fun v wx => v = .bool (setOk [.no, .no, .no] s t) ∧ Ext w4 wx)
  case first =>
    obtain ⟨s0, s1, s2, s3⟩ := HB.out.cell
    by_cases h0 : 0 ≤ s
    · by_cases h1 : s < 3
      · have hso : setOk [.no, .no, .no] s t = decide (rightV t = 0) := by simp [setOk, h0, h1]
        have HSO := Lib.hid hso
        clear hso
        go_wp2_with fail
        refine (rright6_any _ t _ _ _ _ w4 HA.out).mono ?_
        rintro e w5 ⟨rfl, hE5⟩
        go_wp2_with fail
        go_meet
        case rel => exact ⟨by rw [HSO.out]; first | rfl | (congr 1; simp), hE5⟩
      · have hso : setOk [.no, .no, .no] s t = false := by simp [setOk, h1]
        have HSO := Lib.hid hso
        clear hso
        go_wp2_with fail
        go_meet
        case rel => exact ⟨by rw [HSO.out], Ext.refl _⟩
    · have hso : setOk [.no, .no, .no] s t = false := by simp [setOk, h0]
      have HSO := Lib.hid hso
      clear hso
      go_wp2_with fail
      go_meet
      case rel => exact ⟨by rw [HSO.out], Ext.refl _⟩
  case rest =>
  obtain ⟨rfl, hEc⟩ := hcut
  replace HA := Lib.hid (HA.out.ext hEc)
  replace HB := Lib.hid (HB.out.ext hEc)
  replace HE := Lib.hid (HE.out.trans hEc)
  replace HF0 := Lib.hid (HF0.out.ext hEc)
  replace HFR := Lib.hid (HFR.out.ext hEc)
  replace HW3 := Lib.hid (show w.heap.size ≤ w3.heap.size ∧ w3.heap.size ≤ wc.heap.size from ⟨HW3.out.1, Nat.le_trans HW3.out.2 hEc.lt⟩)
  clear hEc
  obtain ⟨w5, rfl⟩ : ∃ wx : World, wx = wc := ⟨_, rfl⟩
  obtain ⟨s0, s1, s2, s3⟩ := HB.out.cell
  have hset := set_rd HE.out HBF.out HF0.out HA.out hs (ok := setOk [.no, .no, .no] s t) (sl' := setV [.no, .no, .no] s t) rfl rfl
  have hsv := slotV_set s t
  generalize setOk [.no, .no, .no] s t = ok at *
  generalize setV [.no, .no, .no] s t = sl at *
  have HSET := Lib.hid hset
  have HSV := Lib.hid hsv
  clear hset hsv
  cases ok
  · go_wp2_with fail
    refine HSET.out.mono ?_
    rintro e w6 ⟨rfl, hf6, hE6, hk⟩
    have hif : IsFr (fun _ => True) w6 p (outL l b sl) := FrTo.join (hf6.mono fun _ _ _ => ⟨trivial, rfl⟩) (HFR.out.mono (G := fun _ => True) fun x hx hlt => ⟨trivial, hk x hlt (by have := HBL.out; omega)⟩)
    replace HA := Lib.hid (ArrAt.mono (G := fun x => x < w.heap.size) (w' := w6) (fun x hx hlt => ⟨hx, hk x hlt (by have := HBF.out; omega)⟩) _ _ _ _ _ HA.out)
    replace HB := Lib.hid (HB.out.kept (hk bx HB.out.lt HNB.out))
    replace HE := Lib.hid hE6
    have HIF := Lib.hid hif
    clear hif hE6 hk hf6 HSET HFR HF0 s0 s1 s2 s3
    obtain ⟨s0, s1, s2, s3⟩ := HB.out.cell
    have hg := get_any (fun _ => True) p (outL l b sl) (by rw [outL_len, HLN.out]; omega) (j : Int) s w6 HIF.out (by omega) hs
    rw [show getV (outL l b sl) (j : Int) s = none from by rw [← HLN.out, outL_at, HSV.out]; rfl] at hg
    simp only [Option.isSome_some, Option.isSome_none, Option.getD_some, Option.getD_none] at hg
    have HG := Lib.hid hg
    clear hg
    go_wp2_with fail
    refine HG.out.mono ?_
    rintro e w7 ⟨g0, g1, g2, g3, rfl, hG, hE7⟩
    obtain ⟨gk, gp1, gl1, gc1, gp2, gl2, gc2, gp3, gl3, gc3, rfl, rfl, rfl, rfl⟩ := hG.form
    clear HG s0 s1 s2 s3
    go_upto_region 14 with (fail)
    have eb := hE7.alloc (.cells #[.int .i64 gk, .slice gp1 gl1 gc1, .slice gp2 gl2 gc2, .slice gp3 gl3 gc3, .nilIface] 38)
    have rb := RowC.new 38 w7 [.int .i64 gk, .slice gp1 gl1 gc1, .slice gp2 gl2 gc2, .slice gp3 gl3 gc3, .nilIface]
    have hG2 := hG.ext ((Ext.refl _).alloc (.cells #[.int .i64 gk, .slice gp1 gl1 gc1, .slice gp2 gl2 gc2, .slice gp3 gl3 gc3, .nilIface] 38))
    change RowC _ (w7.alloc (.cells #[.int .i64 gk, .slice gp1 gl1 gc1, .slice gp2 gl2 gc2, .slice gp3 gl3 gc3, .nilIface] 38)) _ _ at rb
    generalize w7.alloc (.cells #[.int .i64 gk, .slice gp1 gl1 gc1, .slice gp2 gl2 gc2, .slice gp3 gl3 gc3, .nilIface] 38) = w8 at *
    generalize w7.heap.size = b3 at *
    have HGA := Lib.hid hG2
    have R3 := Lib.hid rb
    replace HA := Lib.hid (HA.out.ext eb)
    replace HB := Lib.hid (HB.out.ext eb)
    replace HE := Lib.hid (HE.out.trans eb)
    replace HIF := Lib.hid (HIF.out.ext eb)
    clear hG hG2 rb eb hE7
    have hg := get_any (fun _ => True) p (outL l b sl) (by rw [outL_len, HLN.out]; omega) ((j : Int) + 1) s w8 HIF.out (by omega) hs
    rw [show getV (outL l b sl) ((j : Int) + 1) s = none from by rw [← HLN.out, outL_past]] at hg
    simp only [Option.isSome_none, Option.getD_none] at hg
    have HG := Lib.hid hg
    clear hg
    go_wp2_with fail
    refine HG.out.mono ?_
    rintro e w9 ⟨z0, z1, z2, z3, rfl, hZ, hE9⟩
    obtain ⟨zk, zp1, zl1, zc1, zp2, zl2, zc2, zp3, zl3, zc3, rfl, rfl, rfl, rfl⟩ := hZ.form
    clear HG hZ
    go_upto_region 15 with (fail)
    have eb := hE9.alloc (.cells #[.int .i64 zk, .slice zp1 zl1 zc1, .slice zp2 zl2 zc2, .slice zp3 zl3 zc3, .nilIface] 38)
    generalize w9.alloc (.cells #[.int .i64 zk, .slice zp1 zl1 zc1, .slice zp2 zl2 zc2, .slice zp3 zl3 zc3, .nilIface] 38) = w10 at *
    replace HA := Lib.hid (HA.out.ext eb)
    replace HB := Lib.hid (HB.out.ext eb)
    replace HE := Lib.hid (HE.out.trans eb)
    replace HIF := Lib.hid (HIF.out.ext eb)
    replace HGA := Lib.hid (HGA.out.ext eb)
    replace R3 := Lib.hid (R3.out.ext eb)
    clear eb hE9
    obtain ⟨s0, s1, s2, s3⟩ := HB.out.cell
    obtain ⟨v0, v1, v2, v3, v4⟩ := R3.out.cell5
    go_wp2_with fail
    have hd := depth_any p ((outL l b sl).map Prod.fst) (by rw [List.length_map, outL_len, HLN.out]; omega) w10 HIF.out.chain
    rw [show ((outL l b sl).map Prod.fst).length - 1 = j by rw [List.length_map, outL_len, HLN.out]; omega] at hd
    refine hd.mono ?_
    rintro e w12 ⟨rfl, hE12⟩
    replace HE := Lib.hid (HE.out.trans hE12)
    clear hE12 hd
    go_wp2_with fail
    refine (fexample_any _).mono ?_
    rintro e wl ⟨rfl, hEl⟩
    go_wp2_with fail
    go_ret
    exact ⟨rfl, HE.out.trans hEl⟩
  · go_wp2_with fail
    refine HSET.out.mono ?_
    rintro e w6 ⟨rfl, hf6, hE6, hk⟩
    have hif : IsFr (fun _ => True) w6 p (outL l b sl) := FrTo.join (hf6.mono fun _ _ _ => ⟨trivial, rfl⟩) (HFR.out.mono (G := fun _ => True) fun x hx hlt => ⟨trivial, hk x hlt (by have := HBL.out; omega)⟩)
    replace HA := Lib.hid (ArrAt.mono (G := fun x => x < w.heap.size) (w' := w6) (fun x hx hlt => ⟨hx, hk x hlt (by have := HBF.out; omega)⟩) _ _ _ _ _ HA.out)
    replace HB := Lib.hid (HB.out.kept (hk bx HB.out.lt HNB.out))
    replace HE := Lib.hid hE6
    have HIF := Lib.hid hif
    clear hif hE6 hk hf6 HSET HFR HF0 s0 s1 s2 s3
    obtain ⟨s0, s1, s2, s3⟩ := HB.out.cell
    have hg := get_any (fun _ => True) p (outL l b sl) (by rw [outL_len, HLN.out]; omega) (j : Int) s w6 HIF.out (by omega) hs
    rw [show getV (outL l b sl) (j : Int) s = some t from by rw [← HLN.out, outL_at, HSV.out]; rfl] at hg
    simp only [Option.isSome_some, Option.isSome_none, Option.getD_some, Option.getD_none] at hg
    have HG := Lib.hid hg
    clear hg
    go_wp2_with fail
    refine HG.out.mono ?_
    rintro e w7 ⟨g0, g1, g2, g3, rfl, hG, hE7⟩
    obtain ⟨gk, gp1, gl1, gc1, gp2, gl2, gc2, gp3, gl3, gc3, rfl, rfl, rfl, rfl⟩ := hG.form
    clear HG s0 s1 s2 s3
    go_upto_region 14 with (fail)
    have eb := hE7.alloc (.cells #[.int .i64 gk, .slice gp1 gl1 gc1, .slice gp2 gl2 gc2, .slice gp3 gl3 gc3, .nilIface] 38)
    have rb := RowC.new 38 w7 [.int .i64 gk, .slice gp1 gl1 gc1, .slice gp2 gl2 gc2, .slice gp3 gl3 gc3, .nilIface]
    have hG2 := hG.ext ((Ext.refl _).alloc (.cells #[.int .i64 gk, .slice gp1 gl1 gc1, .slice gp2 gl2 gc2, .slice gp3 gl3 gc3, .nilIface] 38))
    change RowC _ (w7.alloc (.cells #[.int .i64 gk, .slice gp1 gl1 gc1, .slice gp2 gl2 gc2, .slice gp3 gl3 gc3, .nilIface] 38)) _ _ at rb
    generalize w7.alloc (.cells #[.int .i64 gk, .slice gp1 gl1 gc1, .slice gp2 gl2 gc2, .slice gp3 gl3 gc3, .nilIface] 38) = w8 at *
    generalize w7.heap.size = b3 at *
    have HGA := Lib.hid hG2
    have R3 := Lib.hid rb
    replace HA := Lib.hid (HA.out.ext eb)
    replace HB := Lib.hid (HB.out.ext eb)
    replace HE := Lib.hid (HE.out.trans eb)
    replace HIF := Lib.hid (HIF.out.ext eb)
    clear hG hG2 rb eb hE7
    have hg := get_any (fun _ => True) p (outL l b sl) (by rw [outL_len, HLN.out]; omega) ((j : Int) + 1) s w8 HIF.out (by omega) hs
    rw [show getV (outL l b sl) ((j : Int) + 1) s = none from by rw [← HLN.out, outL_past]] at hg
    simp only [Option.isSome_none, Option.getD_none] at hg
    have HG := Lib.hid hg
    clear hg
    go_wp2_with fail
    refine HG.out.mono ?_
    rintro e w9 ⟨z0, z1, z2, z3, rfl, hZ, hE9⟩
    obtain ⟨zk, zp1, zl1, zc1, zp2, zl2, zc2, zp3, zl3, zc3, rfl, rfl, rfl, rfl⟩ := hZ.form
    clear HG hZ
    go_upto_region 15 with (fail)
    have eb := hE9.alloc (.cells #[.int .i64 zk, .slice zp1 zl1 zc1, .slice zp2 zl2 zc2, .slice zp3 zl3 zc3, .nilIface] 38)
    generalize w9.alloc (.cells #[.int .i64 zk, .slice zp1 zl1 zc1, .slice zp2 zl2 zc2, .slice zp3 zl3 zc3, .nilIface] 38) = w10 at *
    replace HA := Lib.hid (HA.out.ext eb)
    replace HB := Lib.hid (HB.out.ext eb)
    replace HE := Lib.hid (HE.out.trans eb)
    replace HIF := Lib.hid (HIF.out.ext eb)
    replace HGA := Lib.hid (HGA.out.ext eb)
    replace R3 := Lib.hid (R3.out.ext eb)
    clear eb hE9
    obtain ⟨s0, s1, s2, s3⟩ := HB.out.cell
    obtain ⟨v0, v1, v2, v3, v4⟩ := R3.out.cell5
    go_wp2_with fail
    refine (same_true (Rd.mk HGA.out) (Rd.mk HA.out) rfl rfl).mono ?_
    rintro e w11 ⟨rfl, hE11⟩
    replace HE := Lib.hid (HE.out.trans hE11)
    replace HIF := Lib.hid (HIF.out.ext hE11)
    clear hE11 s0 s1 s2 s3 v0 v1 v2 v3 v4
    go_wp2_with fail
    have hd := depth_any p ((outL l b sl).map Prod.fst) (by rw [List.length_map, outL_len, HLN.out]; omega) w11 HIF.out.chain
    rw [show ((outL l b sl).map Prod.fst).length - 1 = j by rw [List.length_map, outL_len, HLN.out]; omega] at hd
    refine hd.mono ?_
    rintro e w12 ⟨rfl, hE12⟩
    replace HE := Lib.hid (HE.out.trans hE12)
    clear hE12 hd
    go_wp2_with fail
    refine (fexample_any _).mono ?_
    rintro e wl ⟨rfl, hEl⟩
    go_wp2_with fail
    go_ret
    exact ⟨rfl, HE.out.trans hEl⟩
end Go.Proofs.Ytgeppialbkijiaa
