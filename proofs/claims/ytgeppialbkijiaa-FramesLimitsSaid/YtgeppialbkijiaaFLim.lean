/-
  THE WALK of law39.FramesLimits: it returns true, and turns nothing that was there.
-/
import Derived.Test.YtgeppialbkijiaaFEx
namespace Go.Proofs.Ytgeppialbkijiaa
set_option linter.unusedSimpArgs false
set_option linter.unusedVariables false
open Go.RowKit

theorem lim_set (m : Nat) (h : 0 < m) : setOk (List.replicate m .no) ((m : Int) - 1) (numV 1) = true ∧ setV (List.replicate m .no) ((m : Int) - 1) (numV 1) = (List.replicate m .no).set (m - 1) (.arr (numV 1)) := by
  have hr : rightV (numV 1) = 0 := by kernel_rfl
  have h1 : setOk (List.replicate m .no) ((m : Int) - 1) (numV 1) = true := by unfold setOk; simp [hr]; omega
  refine ⟨h1, ?_⟩
  unfold setV
  rw [if_pos h1, show ((m : Int) - 1).toNat = m - 1 by omega]
theorem slotArrs_no : ∀ k, slotArrs (List.replicate k .no) = []
  | 0 => rfl
  | k + 1 => by
    have ih := slotArrs_no k
    unfold slotArrs at ih ⊢
    rw [List.replicate_succ, List.flatMap_cons, ih]
    rfl
theorem lim_arrs (b m : Nat) (h : 0 < m) : frArrs [(b, (List.replicate m .no).set (m - 1) (.arr (numV 1)))] = [numV 1] := by
  obtain ⟨k, rfl⟩ : ∃ k, m = k + 1 := ⟨m - 1, by omega⟩
  have e : (List.replicate (k + 1) Slot.no).set k (.arr (numV 1)) = List.replicate k .no ++ [.arr (numV 1)] := by
    apply List.ext_getElem?
    intro j
    rw [List.getElem?_set, List.getElem?_append]
    by_cases hj : k = j
    · subst hj; simp
    · rw [if_neg hj]
      simp only [List.length_replicate]
      by_cases h2 : j < k
      · rw [if_pos h2, List.getElem?_replicate, List.getElem?_replicate, if_pos (by omega), if_pos h2]
      · rw [if_neg h2, List.getElem?_replicate, if_neg (by omega), List.getElem?_eq_none (by simp; omega)]
  have e2 : slotArrs (List.replicate k .no ++ [.arr (numV 1)]) = [numV 1] := by
    have h0 := slotArrs_no k
    unfold slotArrs at h0 ⊢
    rw [List.flatMap_append, h0]
    rfl
  rw [Nat.add_sub_cancel, e]
  simp only [frArrs, List.flatMap_cons, List.flatMap_nil, List.append_nil]
  exact e2
set_option maxRecDepth 100000 in
set_option maxHeartbeats 8000000 in
theorem flimits_any (n : Int) (w : World) (hn : -9223372036854775808 ≤ n ∧ n ≤ 9223372036854775807) : Calls Try.prog 4 #[.int .i64 n] w fun e w' => e = .returned (.bool true) ∧ Ext w w' := by
  go_enter Try.func4, Try.ntmps4
  go_wp2_with fail
  refine (new_any n none w hn).mono ?_
  rintro e w1 ⟨b, rfl, hf, hE1⟩
  have hle := slotsN_le n
  have hsn : (slotsN n : Int) = (if 16384 < (if n < 0 then 0 else n) then 16384 else (if n < 0 then 0 else n)) := by unfold slotsN; split <;> split <;> omega
  generalize slotsN n = m at *
  have HSN := Lib.hid hsn
  have HF := Lib.hid hf
  have HE := Lib.hid hE1
  clear hsn hf hE1
  go_upto_region 2 with (fail)
  go_cut [4] (fun v wx => v = .int .i64 (m : Int) ∧ wx = w1)
  case first =>
    by_cases h1 : n < 0
    · rw [if_pos h1, if_neg (by omega)] at HSN
      go_wp2_with fail
      go_meet
      case rel => exact ⟨by rw [HSN.out], rfl⟩
    · rw [if_neg h1] at HSN
      by_cases h2 : 16384 < n
      · rw [if_pos h2] at HSN
        go_wp2_with fail
        go_meet
        case rel => exact ⟨by rw [HSN.out], rfl⟩
      · rw [if_neg h2] at HSN
        go_wp2_with fail
        go_meet
        case rel => exact ⟨by rw [HSN.out], rfl⟩
  case rest =>
  obtain ⟨rfl, hwc⟩ := hcut
  subst hwc
  clear HSN
  obtain ⟨w1, rfl⟩ : ∃ wx : World, wx = wc := ⟨_, rfl⟩
  have HBL := Lib.hid HF.out.lt
  have HBF := Lib.hid (show w.heap.size ≤ b from HF.out.fb)
  go_wp2_with fail
  refine (num_any 1 w1 (by decide)).mono ?_
  rintro e w2 ⟨e0, e1, e2, e3, rfl, hA, hE2⟩
  obtain ⟨nk, np, nl, nc, nq, nm, nd, nr, no, ne, rfl, rfl, rfl, rfl⟩ := hA.form
  go_upto_region 5 with (fail)
  go_wp2_with fail
  have eb : Ext w2 (w2.alloc (.cells #[.int .i64 nk, .slice np nl nc, .slice nq nm nd, .slice nr no ne, .nilIface] 38)) := (Ext.refl _).alloc _
  have rb := RowC.new 38 w2 [.int .i64 nk, .slice np nl nc, .slice nq nm nd, .slice nr no ne, .nilIface]
  change RowC _ (w2.alloc (.cells #[.int .i64 nk, .slice np nl nc, .slice nq nm nd, .slice nr no ne, .nilIface] 38)) _ _ at rb
  generalize w2.alloc (.cells #[.int .i64 nk, .slice np nl nc, .slice nq nm nd, .slice nr no ne, .nilIface] 38) = w3 at *
  have HNB := Lib.hid (show w2.heap.size ≠ b from fun e => by have := HBL.out; have := hE2.lt; omega)
  generalize hbv : w2.heap.size = bv at *
  clear hbv
  replace HF := Lib.hid (HF.out.ext (hE2.trans eb))
  have HA := Lib.hid (ArrAt.mono (G := fun x => x ≠ b) (w' := w3) (fun x hx hlt => ⟨fun e => by have := HBL.out; omega, eb.block hlt⟩) _ _ _ _ _ hA)
  have RB := Lib.hid rb
  replace HE := Lib.hid (HE.out.trans (hE2.trans eb))
  clear hA hE2 eb rb
  have hg := get_any (fun _ => False) none [] (by simp) 0 0 w3 rfl (by decide) (by decide)
  rw [show getV [] 0 0 = none from rfl] at hg
  simp only [Option.isSome_none, Option.getD_none] at hg
  refine hg.mono ?_
  rintro e w4 ⟨g0, g1, g2, g3, rfl, hZ, hE4⟩
  obtain ⟨zk, zp1, zl1, zc1, zp2, zl2, zc2, zp3, zl3, zc3, rfl, rfl, rfl, rfl⟩ := hZ.form
  clear hg hZ
  go_upto_region 6 with (fail)
  have hEn := hE4.alloc (.cells #[.int .i64 zk, .slice zp1 zl1 zc1, .slice zp2 zl2 zc2, .slice zp3 zl3 zc3, .nilIface] 38)
  generalize w4.alloc (.cells #[.int .i64 zk, .slice zp1 zl1 zc1, .slice zp2 zl2 zc2, .slice zp3 zl3 zc3, .nilIface] 38) = w5 at *
  replace HF := Lib.hid (HF.out.ext hEn)
  replace HA := Lib.hid (HA.out.ext hEn)
  replace RB := Lib.hid (RB.out.ext hEn)
  replace HE := Lib.hid (HE.out.trans hEn)
  clear hEn hE4
  obtain ⟨s0, s1, s2, s3, s4⟩ := RB.out.cell5
  go_wp2_with fail
  refine (set_nil _ w5 0 (numV 1) _ _ _ _ HA.out).mono ?_
  rintro e w6 ⟨rfl, hEn⟩
  replace HF := Lib.hid (HF.out.ext hEn)
  replace HA := Lib.hid (HA.out.ext hEn)
  replace RB := Lib.hid (RB.out.ext hEn)
  replace HE := Lib.hid (HE.out.trans hEn)
  clear hEn s0 s1 s2 s3 s4
  go_wp2_with fail
  have hd := depth_any none [] (by simp) w6 rfl
  rw [show ((([] : List Nat).length - 1 : Nat) : Int) = 0 from rfl] at hd
  refine hd.mono ?_
  rintro e w7 ⟨rfl, hEn⟩
  replace HF := Lib.hid (HF.out.ext hEn)
  replace HA := Lib.hid (HA.out.ext hEn)
  replace RB := Lib.hid (RB.out.ext hEn)
  replace HE := Lib.hid (HE.out.trans hEn)
  clear hEn hd
  go_wp2_with fail
  have hg := arrs_any (fun _ => False) none [] (by simp) w7 rfl
  rw [show (frArrs []).length = 0 from rfl] at hg
  refine hg.mono ?_
  rintro e w8 ⟨pz, cz, rfl, _, _, hEn⟩
  replace HF := Lib.hid (HF.out.ext hEn)
  replace HA := Lib.hid (HA.out.ext hEn)
  replace RB := Lib.hid (RB.out.ext hEn)
  replace HE := Lib.hid (HE.out.trans hEn)
  clear hEn hg
  obtain ⟨s0, s1, s2, s3, s4⟩ := RB.out.cell5
  go_wp2_with fail
  refine (set_rd HE.out HBF.out HF.out HA.out (by omega) (ok := false) (sl' := List.replicate m .no) (by unfold setOk; simp) (setV_no (by unfold setOk; simp))).mono ?_
  rintro e w9 ⟨rfl, hf, he, hk⟩
  replace HF := Lib.hid (hf.mono (G := fun x => w.heap.size ≤ x) (w' := w9) fun x hx _ => ⟨hx.elim id (fun h => Nat.le_trans HE.out.lt h), rfl⟩)
  replace HA := Lib.hid (ArrAt.mono (G := fun x => x ≠ b) (w' := w9) (fun x hx hlt => ⟨hx, hk x hlt hx⟩) _ _ _ _ _ HA.out)
  replace RB := Lib.hid (RB.out.kept (hk bv RB.out.lt HNB.out))
  replace HE := Lib.hid he
  clear hf he hk s0 s1 s2 s3 s4
  obtain ⟨s0, s1, s2, s3, s4⟩ := RB.out.cell5
  go_wp2_with fail
  refine (set_rd HE.out HBF.out HF.out HA.out (by omega) (ok := false) (sl' := List.replicate m .no) (by unfold setOk; simp) (setV_no (by unfold setOk; simp))).mono ?_
  rintro e w10 ⟨rfl, hf, he, hk⟩
  replace HF := Lib.hid (hf.mono (G := fun x => w.heap.size ≤ x) (w' := w10) fun x hx _ => ⟨hx.elim id (fun h => Nat.le_trans HE.out.lt h), rfl⟩)
  replace HA := Lib.hid (ArrAt.mono (G := fun x => x ≠ b) (w' := w10) (fun x hx hlt => ⟨hx, hk x hlt hx⟩) _ _ _ _ _ HA.out)
  replace RB := Lib.hid (RB.out.kept (hk bv RB.out.lt HNB.out))
  replace HE := Lib.hid he
  clear hf he hk s0 s1 s2 s3 s4
  by_cases hm : m = 0
  · subst hm
    go_wp2_with fail
    refine (fexample_any _).mono ?_
    rintro e wl ⟨rfl, hEl⟩
    go_wp2_with fail
    go_ret
    exact ⟨rfl, HE.out.trans hEl⟩
  have hm0 : ¬ ((m : Int) = 0) := by omega
  have hws : IntKind.i64.wrap ((m : Int) - 1) = (m : Int) - 1 := IntWalk.i64_in _ (by omega)
  obtain ⟨s0, s1, s2, s3, s4⟩ := RB.out.cell5
  go_wp2_with fail
  refine (set_rd HE.out HBF.out HF.out HA.out (by omega) (ok := true) (sl' := (List.replicate m .no).set (m - 1) (.arr (numV 1))) (lim_set m (by omega)).1 (lim_set m (by omega)).2).mono ?_
  rintro e w11 ⟨rfl, hf, he, hk⟩
  replace HF := Lib.hid (hf.mono (G := fun x => w.heap.size ≤ x) (w' := w11) fun x hx _ => ⟨hx.elim id (fun h => Nat.le_trans HE.out.lt h), rfl⟩)
  replace HA := Lib.hid (ArrAt.mono (G := fun x => x ≠ b) (w' := w11) (fun x hx hlt => ⟨hx, hk x hlt hx⟩) _ _ _ _ _ HA.out)
  replace RB := Lib.hid (RB.out.kept (hk bv RB.out.lt HNB.out))
  replace HE := Lib.hid he
  clear hf he hk s0 s1 s2 s3 s4
  go_wp2_with fail
  have hg := arrs_any (fun x => w.heap.size ≤ x) (some ⟨b, 0, none⟩) [(b, (List.replicate m .no).set (m - 1) (.arr (numV 1)))] (by simp) w11 ⟨none, rfl, HF.out, rfl⟩
  rw [lim_arrs b m (by omega)] at hg
  refine hg.mono ?_
  rintro e w12 ⟨pz', cz', rfl, _, _, hEn⟩
  replace HE := Lib.hid (HE.out.trans hEn)
  clear hEn hg
  go_wp2_with fail
  refine (fexample_any _).mono ?_
  rintro e wl ⟨rfl, hEl⟩
  go_wp2_with fail
  go_ret
  exact ⟨rfl, HE.out.trans hEl⟩
end Go.Proofs.Ytgeppialbkijiaa
