/-
  THE WALK of arraylangref06.Sorted over whatever list of arrays, up to 65536: the stable order, or none if an array is not right.
-/
import Derived.Test.YtgkemmdghmklfaaSRT
import Derived.Test.YtgkemmdghmklfaaROrdB
import Derived.Test.YtgkemmdghmklfaaRRight
import Derived.Test.YtgkemmdghmklfaaChain
import Derived.Test.YtgkemmdghmklfaaApp2
import Derived.Test.YtgkemmdghmklfaaSlice
namespace Go.Proofs.Ytgkemmdghmklfaa
set_option linter.unusedSimpArgs false
set_option linter.unusedVariables false
open Go.RowKit

theorem insAllS_length (c : Int → Int → Int) (n : Nat) : (insAll c n).length = n := by rw [(insAll_perm c n).length_eq, idxs_length]
theorem insAllS_mem {c : Int → Int → Int} {n : Nat} {x : Int} (h : x ∈ insAll c n) : 0 ≤ x ∧ x < n := idxs_mem.1 ((insAll_perm c n).mem_iff.1 h)
theorem OwnI.rebaseS {B B' : Nat} {w : World} {v : Value} {n : Nat} {xs : List Int} (h : OwnI B (fun _ => False) w v n xs) (hB : B' ≤ B) : OwnI B' (fun _ => False) w v n xs := by
  obtain ⟨k1, k2, k3, k4, k5⟩ := h
  exact ⟨k1, k2, ownsRow_base k3 hB, fun g hg hx => hx, k5⟩

set_option maxRecDepth 1000000 in
set_option maxHeartbeats 8000000 in
theorem rsortN_any (m : Nat) (F : Nat → Prop) (p : Option Addr) (c : Nat) (L : List Arr) (w : World) (h : ItemsAt F w p 0 L) (hm : ∀ t ∈ L, szA t < m) (hl : L.length ≤ 65536) :
    Calls Try.prog 57 #[.slice p L.length c] w fun e w' => ∃ v, e = .returned v ∧ OwnI w.heap.size (fun _ => False) w' v (sortL m L).length (sortL m L) ∧ Ext w w' := by
  have H := Lib.hid h
  have HM := Lib.hid hm
  obtain ⟨n, hn⟩ : ∃ n, n = L.length := ⟨_, rfl⟩
  have HSV : Hid (sortL m L = if ∀ t ∈ L, rightV t = 0 then insAll (cmpM m L) n else []) := by rw [hn]; rfl
  have HSN : Hid ((∃ t ∈ L, rightV t ≠ 0) → sortL m L = []) := fun ⟨t, h1, h2⟩ => if_neg fun h3 => h2 (h3 t h1)
  generalize sortL m L = sv at *
  rw [← hn] at hl ⊢
  have HN := Lib.hid hn
  clear h hn hm
  go_enter Try.func57, Try.ntmps57
  go_wp2_with fail
  go_loopw [3, 4] (fun ov iv wr => ∃ (i : Nat) (v : Value), i ≤ n ∧ v = ov ∧ iv = .int .i64 (i : Int) ∧ Hid (∀ j, j < i → rightV (L.getD j default) = 0) ∧ Hid (OwnI w.heap.size (fun _ => False) wr v i (insAll (cmpM m L) i)) ∧ Hid (Ext w wr)) (fun _ iv _ => n - (intOf iv).toNat)
  case atStart => exact ⟨0, _, Nat.zero_le _, rfl, rfl, fun j hj => by omega, OwnI.nil _ _ _, Ext.refl _⟩
  case round =>
  obtain ⟨i, v, hin, rfl, rfl, HRK, HO, HE⟩ := hrel
  obtain ⟨pv, cv, rfl, hcv⟩ := HO.out.form
  by_cases hlt : i < n
  rotate_left
  · have hie : i = n := by omega
    subst hie
    have hall : ∀ t ∈ L, rightV t = 0 := fun t ht => by
      obtain ⟨j, hj, rfl⟩ := List.getElem_of_mem ht
      have h1 := HRK.out j (by rw [HN.out]; exact hj)
      simpa [List.getD, hj] using h1
    have hsv := HSV.out
    rw [if_pos hall] at hsv
    have HSV2 := Lib.hid hsv
    clear hall hsv HSV HSN HRK
    go_wp2_with fail
    go_ret
    refine ⟨_, rfl, ?_, HE.out⟩
    rw [HSV2.out, insAllS_length]
    exact HO.out
  have hkL : i < L.length := by rw [← HN.out]; exact hlt
  obtain ⟨ba, oa, x0, x1, x2, x3, rfl, k0, k1, k2, k3, hA⟩ := (H.out.ext HE.out).getD hkL
  obtain ⟨ka, ua, va, za, ub, vb, zb, uc, vc, zc, rfl, rfl, rfl, rfl⟩ := hA.form
  have HRG := Lib.hid (rright6_any F (L.getD i default) _ _ _ _ _ hA)
  have HBAD := Lib.hid (fun (h : rightV (L.getD i default) ≠ 0) => HSN.out ⟨L.getD i default, by simp [List.getD, hkL], h⟩)
  have HRK2 := Lib.hid (fun (h : rightV (L.getD i default) = 0) (j : Nat) (hj : j < i + 1) => show rightV (L.getD j default) = 0 from by
    by_cases hjk : j = i
    · rw [hjk]; exact h
    · exact HRK.out j (by omega))
  generalize rightV (L.getD i default) = rk at *
  clear hA
  by_cases hrk : rk = 0
  rotate_left
  · have hrk' : (rk != 0) = true := by simpa using hrk
    have hsv := HBAD.out hrk
    clear hrk HRK HRK2 HBAD HSN HSV
    go_wp2_with fail
    refine HRG.out.mono ?_
    rintro e w2 ⟨rfl, hE2⟩
    have hE3 := HE.out.trans hE2
    go_wp2_with fail
    go_ret
    refine ⟨_, rfl, ?_, hE3⟩
    rw [hsv]
    exact OwnI.nil _ _ _
  have hRK3 := HRK2.out hrk
  have HRK3 := Lib.hid hRK3
  subst hrk
  have HOL : Hid ((insAll (cmpM m L) i).length = i) := insAllS_length _ _
  have HOB : Hid (∀ x ∈ insAll (cmpM m L) i, 0 ≤ x ∧ x < i) := fun x hx => insAllS_mem hx
  have HNX : Hid (insAll (cmpM m L) (i + 1) = (insAll (cmpM m L) i).take (insK (cmpM m L) i (insAll (cmpM m L) i) i) ++ (i : Int) :: (insAll (cmpM m L) i).drop (insK (cmpM m L) i (insAll (cmpM m L) i) i)) := by
    unfold Hid
    rw [insAll, insAllS_length]
  have HCM : Hid (∀ a b : Nat, cmpM m L (a : Int) (b : Int) = cmpF m (L.getD a default) (L.getD b default)) := fun a b => by unfold cmpM; simp
  generalize insAll (cmpM m L) i = o at *
  clear HRK2 HBAD hRK3 HRK HSV
  go_wp2_with fail
  refine HRG.out.mono ?_
  rintro e wo ⟨rfl, hE2⟩
  replace HO := Lib.hid (HO.out.ext hE2)
  replace HE := Lib.hid (HE.out.trans hE2)
  clear hE2 HRG k0 k1 k2 k3
  have HIo : Hid (IntsAt (fun b => w.heap.size ≤ b ∧ b < wo.heap.size) wo pv o) := by
    obtain ⟨p9, c9, e9, _, hi9⟩ := HO.out.ints
    simp only [Value.slice.injEq] at e9
    obtain ⟨rfl, _, _⟩ := e9
    exact hi9.mono fun b hb hlt => ⟨⟨hb.1, hlt⟩, rfl⟩
  have hcv9 : cv ≤ 9223372036854775807 := by
    obtain ⟨p9, c9, e9, hs9, hi9⟩ := HO.out.ints
    simp only [Value.slice.injEq] at e9
    obtain ⟨_, _, rfl⟩ := e9
    exact hs9.2.1
  have HTK : Hid (∀ k, k ≤ i → (o.take k).length = k) := fun k hk => by rw [List.length_take, HOL.out]; omega
  have HDK : Hid (∀ k, k ≤ i → (o.drop k).length = i - k) := fun k hk => by rw [List.length_drop, HOL.out]
  obtain ⟨wr9, hwr9⟩ : ∃ wx : World, wx = wr := ⟨_, rfl⟩
  clear hwr9
  go_wp2_with fail
  go_loopw [5] (fun kv wq => ∃ (k : Nat), kv = .int .i64 (k : Int) ∧ k ≤ i ∧ Hid (insK (cmpM m L) i o k = insK (cmpM m L) i o i) ∧ Hid (Ext wo wq)) (fun kv _ => (intOf kv).toNat)
  case atStart => exact ⟨i, rfl, Nat.le_refl _, rfl, Ext.refl _⟩
  case round =>
  obtain ⟨k, rfl, hki, HK, HEq⟩ := hrel
  by_cases hk0 : 0 < k
  rotate_left
  · have HKI : Hid (insK (cmpM m L) i o i = k) := by
      unfold Hid
      rw [← HK.out, show k = 0 by omega]; rfl
    go_wp2_with fail
    refine wp_region_g [0, 1, 2, 3, 4, 5, 6, 7, 8, 9, 10, 11, 12, 13, 14] [15, 16, 17] (fun w' => True) (by kernel_rfl) (by kernel_rfl) trivial ?_
    iterate 3
      refine wpHead_cons (v := ?_) rfl (by rfl) (fun w' hS => ?_) ?_
      rotate_left
      · go_simp
        try with_reducible rfl
      try simp only [Act.put, List.setIfInBounds_toArray, List.set]
    iterate 12
      refine wpHead_skip rfl (by rfl) ?_
      try simp only [Act.put, List.setIfInBounds_toArray, List.set]
    unfold wpHead
    iterate 3
      refine wpTail_cons rfl (fun K hK => ?_)
      go_wp2_with fail
      refine hK _ _ trivial ?_
      clear hK
      try simp only [Act.put, List.setIfInBounds_toArray, List.set]
    unfold wpTail
    refine OnlyN.mk ?_
    have hEd := (Ext.refl wr).drew
    have HEr := Lib.hid (HE.out.trans (HEq.out.trans hEd))
    have HOr := Lib.hid (HO.out.ext (HEq.out.trans hEd))
    have HIr := Lib.hid (HIo.out.ext (HEq.out.trans hEd))
    have HK0 := Lib.hid hEd
    clear hEd HEq
    generalize wr.drew = wf at *
    obtain ⟨wr, rfl⟩ : ∃ wx : World, wx = wf := ⟨_, rfl⟩
    (try simp only [Exit.inBlock, Exit.then])
    have HNXk : Hid (insAll (cmpM m L) (i + 1) = o.take k ++ (i : Int) :: o.drop k) := by unfold Hid; rw [HNX.out, HKI.out]
    have hs1 := fun w => slice_h pv i cv w k (by omega)
    have hs2 := fun w => slice_l pv i cv w k hki
    obtain ⟨t1, ht1⟩ : ∃ t1, t1 = o.take k := ⟨_, rfl⟩
    obtain ⟨t2, ht2⟩ : ∃ t2, t2 = o.drop k := ⟨_, rfl⟩
    have l1 : t1.length = k := by rw [ht1]; exact HTK.out k hki
    have l2 : t2.length = i - k := by rw [ht2]; exact HDK.out k hki
    have HI1 : Hid (IntsAt (fun b => w.heap.size ≤ b ∧ b < wo.heap.size) wr (cutAt pv 0 cv 1) t1) := by
      have := HIr.out.cut (n := k) 0 cv (by rw [HOL.out]; exact hcv)
      rw [List.drop_zero] at this
      rw [ht1]; exact this
    have HI2 : Hid (IntsAt (fun b => w.heap.size ≤ b ∧ b < wo.heap.size) wr (cutAt pv k cv 1) t2) := by
      have := HIr.out.cut (n := i) k cv (by rw [HOL.out]; exact hcv)
      rw [List.take_of_length_le (by rw [HDK.out k hki]; omega)] at this
      rw [ht2]; exact this
    rw [← ht1, ← ht2] at HNXk
    have L1 := Lib.hid l1
    have L2 := Lib.hid l2
    have hE1 : Ext wr (wr.alloc (.cells #[] 3)) := (Ext.refl _).alloc _
    have HJ1 := Lib.hid (HI1.out.ext hE1)
    have HL1 := Lib.hid hE1.lt
    clear l1 l2 ht1 ht2 HI1 hE1 HIr HIo HK0 HOr
    go_wp2_with (at_builtin; refine wpList_append_zero rfl _ _ rfl _ wr.heap.size (fun _ => False) wr.heap.size (cutAt pv 0 cv 1) cv t1 rfl (rowI_new' wr []) (Nat.le_refl _) (fun h => h) (by rw [L1.out]; rfl) HJ1.out (fun _ h => h.elim) (by rw [L1.out]; omega) HL1.out ?_)
    intro v1 w3 ho1 hE3
    have hE3 : Ext wr w3 := ((Ext.refl wr).alloc _).trans hE3
    rw [L1.out] at ho1
    obtain ⟨p1, c1, rfl, _⟩ := ho1.form
    have hEn : Ext w3 (w3.alloc (.cells #[.int .i64 (i : Int)] 3)) := (Ext.refl _).alloc _
    have hnc : (w3.alloc (.cells #[.int .i64 (i : Int)] 3)).cell? ⟨w3.heap.size, 0, none⟩ = some (.int .i64 (i : Int)) := by simp
    have HON := Lib.hid (ho1.ext hEn)
    have HEN := Lib.hid (hE3.trans hEn)
    have HNC := Lib.hid hnc
    clear ho1 hE3 hEn hnc HJ1 HL1 hs1
    go_wp2_with (at_builtin; refine wpList_append_int rfl _ _ rfl wr.heap.size (fun _ => False) (.slice p1 k c1) k t1 (i : Int) rfl HON.out ⟨w3.heap.size, 0, none⟩ 1 rfl HNC.out (fun _ h => h.elim) (by omega) (by omega) HEN.out.lt ?_)
    intro g cap w8 hon8 hgrow _ _ _
    have hE8 : Ext wr w8 := HEN.out.grown hgrow HEN.out.lt (fun q e => (HON.out.2.2.1.lt q e).1)
    have HO8 := Lib.hid hon8
    have HE8 := Lib.hid hE8
    have HJ2 := Lib.hid (HI2.out.ext hE8)
    clear HON HEN HNC hgrow hon8 hE8
    go_wp2_with (at_builtin; refine wpList_append_ints rfl _ _ rfl _ wr.heap.size (fun _ => False) (.slice (some ⟨g, 0, none⟩) (k + 1) cap) (k + 1) (t1 ++ [(i : Int)]) (cutAt pv k cv 1) (cv - k) t2 rfl HO8.out (by rw [L2.out]; rfl) HJ2.out (fun _ h => h.elim) (by rw [L2.out]; omega) HE8.out.lt ?_)
    intro v9 w9 ho9 hgr9 _
    have hE9 : Ext wr w9 := HE8.out.grown hgr9 HE8.out.lt (fun q e => (HO8.out.2.2.1.lt q e).1)
    rw [L2.out, show k + 1 + (i - k) = i + 1 by omega] at ho9
    (try rw [List.append_assoc, List.singleton_append] at ho9)
    rw [← HNXk.out] at ho9
    have HO9 := Lib.hid (ho9.rebaseS HEr.out.lt)
    have HE9 := Lib.hid (HEr.out.trans hE9)
    obtain ⟨p9, c9, rfl, _⟩ := ho9.form
    clear ho9 hgr9 hE9 HO8 HE8 HJ2 HI2 hs2
    go_wp2_with fail
    go_roundw
    case rel => exact ⟨i + 1, _, by omega, rfl, by go_num, HRK3, HO9, HE9⟩
    case measure => simp [intOf]; omega
  have hk1 : k - 1 < o.length := by rw [HOL.out]; omega
  obtain ⟨bo, oo, rfl, hoc, _, _⟩ := (HIo.out.ext HEq.out).get hk1
  have hoa := HOB.out (o.getD (k - 1) 0) (by simp [List.getD, hk1])
  obtain ⟨a, ha⟩ : ∃ a : Nat, o.getD (k - 1) 0 = (a : Int) := ⟨(o.getD (k - 1) 0).toNat, by omega⟩
  rw [ha] at hoa hoc
  have hal : a < i := by omega
  have han : a < n := by omega
  have hil : i < L.length := by rw [← HN.out]; exact hlt
  have hal2 : a < L.length := by rw [← HN.out]; omega
  have hE9 := HE.out.trans HEq.out
  obtain ⟨bi, oi, x0, x1, x2, x3, e1, g0, g1, g2, g3, hX⟩ := (H.out.ext hE9).getD hil
  simp only [Option.some.injEq, Addr.mk.injEq, and_true] at e1
  obtain ⟨rfl, rfl⟩ := e1
  obtain ⟨bi', oi', y0, y1, y2, y3, e2, h0, h1, h2, h3, hY⟩ := (H.out.ext hE9).getD hal2
  simp only [Option.some.injEq, Addr.mk.injEq, and_true] at e2
  obtain ⟨rfl, rfl⟩ := e2
  have hRx := HRK3.out i (by omega)
  have hRy := HRK3.out a (by omega)
  have hcv2 := HCM.out i a
  rw [← ha] at hcv2
  have hbd := cmpF_bd m (L.getD i default) (L.getD a default)
  have HIK : Hid (insK (cmpM m L) i o k = if cmpF m (L.getD i default) (L.getD a default) < 0 then insK (cmpM m L) i o (k - 1) else k) := by
    unfold Hid
    obtain ⟨k', rfl⟩ : ∃ k', k = k' + 1 := ⟨k - 1, by omega⟩
    rw [insK]
    simp only [Nat.add_sub_cancel] at hcv2 ⊢
    rw [hcv2]
  have HCALL := Lib.hid (fun (w' : World) (e : Ext wr w') => rcompare_any F F m (L.getD i default) (L.getD a default) _ _ _ _ _ _ _ _ w' (HM.out _ (by simp [List.getD, hil])) (hX.ext e) (hY.ext e) hRx hRy)
  generalize cmpF m (L.getD i default) (L.getD a default) = sc at *
  have hki2 : ((k : Int) - 1) = ((k - 1 : Nat) : Int) := by omega
  obtain ⟨kx, px1, lx1, cx1, px2, lx2, cx2, px3, lx3, cx3, rfl, rfl, rfl, rfl⟩ := hX.form
  obtain ⟨ky, py1, ly1, cy1, py2, ly2, cy2, py3, ly3, cy3, rfl, rfl, rfl, rfl⟩ := hY.form
  obtain ⟨k', hk'⟩ : ∃ k', k - 1 = k' := ⟨_, rfl⟩
  rw [hk'] at hoc hki2 HIK
  have hwk : IntKind.i64.wrap (k' : Int) = (k' : Int) := IntWalk.i64_in _ (by omega)
  have hkl : k' < i := by omega
  clear hRx hRy hcv2 hX hY hoa ha hk1 hil hal2 hbd
  go_wp2_with fail
  have hS0 : (wr.drew.cell? ⟨ba, oa + i * 4, none⟩ = some (.int .i64 kx) ∧ wr.drew.cell? ⟨ba, oa + i * 4 + 1, none⟩ = some (.slice px1 lx1 cx1) ∧ wr.drew.cell? ⟨ba, oa + i * 4 + 2, none⟩ = some (.slice px2 lx2 cx2) ∧ wr.drew.cell? ⟨ba, oa + i * 4 + 3, none⟩ = some (.slice px3 lx3 cx3)) ∧
    (wr.drew.cell? ⟨ba, oa + a * 4, none⟩ = some (.int .i64 ky) ∧ wr.drew.cell? ⟨ba, oa + a * 4 + 1, none⟩ = some (.slice py1 ly1 cy1) ∧ wr.drew.cell? ⟨ba, oa + a * 4 + 2, none⟩ = some (.slice py2 ly2 cy2) ∧ wr.drew.cell? ⟨ba, oa + a * 4 + 3, none⟩ = some (.slice py3 ly3 cy3)) ∧
    wr.drew.cell? ⟨bo, oo + k', none⟩ = some (.int .i64 (a : Int)) := ⟨⟨g0, g1, g2, g3⟩, ⟨h0, h1, h2, h3⟩, hoc⟩
  refine wp_region_g [0, 1, 2, 3, 4, 5, 6, 7, 8, 9, 10, 11, 12, 13, 14] [15, 16, 17] (fun w' => (w'.cell? ⟨ba, oa + i * 4, none⟩ = some (.int .i64 kx) ∧ w'.cell? ⟨ba, oa + i * 4 + 1, none⟩ = some (.slice px1 lx1 cx1) ∧ w'.cell? ⟨ba, oa + i * 4 + 2, none⟩ = some (.slice px2 lx2 cx2) ∧ w'.cell? ⟨ba, oa + i * 4 + 3, none⟩ = some (.slice px3 lx3 cx3)) ∧
    (w'.cell? ⟨ba, oa + a * 4, none⟩ = some (.int .i64 ky) ∧ w'.cell? ⟨ba, oa + a * 4 + 1, none⟩ = some (.slice py1 ly1 cy1) ∧ w'.cell? ⟨ba, oa + a * 4 + 2, none⟩ = some (.slice py2 ly2 cy2) ∧ w'.cell? ⟨ba, oa + a * 4 + 3, none⟩ = some (.slice py3 ly3 cy3)) ∧
    w'.cell? ⟨bo, oo + k', none⟩ = some (.int .i64 (a : Int))) (by kernel_rfl) (by kernel_rfl) hS0 ?_
  clear g0 g1 g2 g3 h0 h1 h2 h3 hoc
  iterate 15
    refine wpHead_cons (v := ?_) rfl (by rfl) (fun w' hS => ?_) ?_
    rotate_left
    · obtain ⟨⟨g0, g1, g2, g3⟩, ⟨h0, h1, h2, h3⟩, hoc⟩ := hS
      go_simp
      try with_reducible rfl
    try simp only [Act.put, List.setIfInBounds_toArray, List.set]
  unfold wpHead
  refine wpTail_cons rfl (fun K hK => ?_)
  go_wp2_with fail
  refine (HCALL.out wr.drew (Ext.refl _).drew).mono ?_
  rintro e w8 ⟨rfl, hE8⟩
  have hS8 := And.intro (And.intro (hE8.cell hS0.1.1) (And.intro (hE8.cell hS0.1.2.1) (And.intro (hE8.cell hS0.1.2.2.1) (hE8.cell hS0.1.2.2.2)))) (And.intro (And.intro (hE8.cell hS0.2.1.1) (And.intro (hE8.cell hS0.2.1.2.1) (And.intro (hE8.cell hS0.2.1.2.2.1) (hE8.cell hS0.2.1.2.2.2)))) (hE8.cell hS0.2.2))
  have HEn := Lib.hid (HEq.out.trans ((Ext.refl wr).drew.trans hE8))
  clear hE8 HCALL HEq
  go_wp2_with fail
  refine hK _ _ hS8 ?_
  clear hK hS0
  try simp only [Act.put, List.setIfInBounds_toArray, List.set]
  iterate 2
    refine wpTail_cons rfl (fun K hK => ?_)
    go_wp2_with fail
    refine hK _ _ hS8 ?_
    clear hK
    try simp only [Act.put, List.setIfInBounds_toArray, List.set]
  unfold wpTail
  refine OnlyN.mk ?_
  clear hS8
  (try simp only [Exit.inBlock, Exit.then])
  by_cases hsn : sc < 0
  · have HK2 : Hid (insK (cmpM m L) i o k' = insK (cmpM m L) i o i) := by
      have h9 := HIK.out
      rw [if_pos hsn] at h9
      unfold Hid
      rw [← h9]; exact HK.out
    clear HIK HK
    go_wp2_with fail
    go_roundw
    case rel => exact ⟨k', by go_num, by omega, HK2, HEn⟩
    case measure => simp [intOf]; omega
  · have HKI : Hid (insK (cmpM m L) i o i = k) := by
      have h9 := HIK.out
      rw [if_neg hsn] at h9
      unfold Hid
      rw [← HK.out]; exact h9
    have HEr := Lib.hid (HE.out.trans HEn.out)
    have HOr := Lib.hid (HO.out.ext HEn.out)
    have HIr := Lib.hid (HIo.out.ext HEn.out)
    have HK0 := HKI
    clear HIK HK HEn
    obtain ⟨wr, rfl⟩ : ∃ wx : World, wx = w8 := ⟨_, rfl⟩
    generalize some (⟨bo, oo, none⟩ : Addr) = pv at *
    have HNXk : Hid (insAll (cmpM m L) (i + 1) = o.take k ++ (i : Int) :: o.drop k) := by unfold Hid; rw [HNX.out, HKI.out]
    have hs1 := fun w => slice_h pv i cv w k (by omega)
    have hs2 := fun w => slice_l pv i cv w k hki
    obtain ⟨t1, ht1⟩ : ∃ t1, t1 = o.take k := ⟨_, rfl⟩
    obtain ⟨t2, ht2⟩ : ∃ t2, t2 = o.drop k := ⟨_, rfl⟩
    have l1 : t1.length = k := by rw [ht1]; exact HTK.out k hki
    have l2 : t2.length = i - k := by rw [ht2]; exact HDK.out k hki
    have HI1 : Hid (IntsAt (fun b => w.heap.size ≤ b ∧ b < wo.heap.size) wr (cutAt pv 0 cv 1) t1) := by
      have := HIr.out.cut (n := k) 0 cv (by rw [HOL.out]; exact hcv)
      rw [List.drop_zero] at this
      rw [ht1]; exact this
    have HI2 : Hid (IntsAt (fun b => w.heap.size ≤ b ∧ b < wo.heap.size) wr (cutAt pv k cv 1) t2) := by
      have := HIr.out.cut (n := i) k cv (by rw [HOL.out]; exact hcv)
      rw [List.take_of_length_le (by rw [HDK.out k hki]; omega)] at this
      rw [ht2]; exact this
    rw [← ht1, ← ht2] at HNXk
    have L1 := Lib.hid l1
    have L2 := Lib.hid l2
    have hE1 : Ext wr (wr.alloc (.cells #[] 3)) := (Ext.refl _).alloc _
    have HJ1 := Lib.hid (HI1.out.ext hE1)
    have HL1 := Lib.hid hE1.lt
    clear l1 l2 ht1 ht2 HI1 hE1 HIr HIo HK0 HOr
    go_wp2_with (at_builtin; refine wpList_append_zero rfl _ _ rfl _ wr.heap.size (fun _ => False) wr.heap.size (cutAt pv 0 cv 1) cv t1 rfl (rowI_new' wr []) (Nat.le_refl _) (fun h => h) (by rw [L1.out]; rfl) HJ1.out (fun _ h => h.elim) (by rw [L1.out]; omega) HL1.out ?_)
    intro v1 w3 ho1 hE3
    have hE3 : Ext wr w3 := ((Ext.refl wr).alloc _).trans hE3
    rw [L1.out] at ho1
    obtain ⟨p1, c1, rfl, _⟩ := ho1.form
    have hEn : Ext w3 (w3.alloc (.cells #[.int .i64 (i : Int)] 3)) := (Ext.refl _).alloc _
    have hnc : (w3.alloc (.cells #[.int .i64 (i : Int)] 3)).cell? ⟨w3.heap.size, 0, none⟩ = some (.int .i64 (i : Int)) := by simp
    have HON := Lib.hid (ho1.ext hEn)
    have HEN := Lib.hid (hE3.trans hEn)
    have HNC := Lib.hid hnc
    clear ho1 hE3 hEn hnc HJ1 HL1 hs1
    go_wp2_with (at_builtin; refine wpList_append_int rfl _ _ rfl wr.heap.size (fun _ => False) (.slice p1 k c1) k t1 (i : Int) rfl HON.out ⟨w3.heap.size, 0, none⟩ 1 rfl HNC.out (fun _ h => h.elim) (by omega) (by omega) HEN.out.lt ?_)
    intro g cap w8 hon8 hgrow _ _ _
    have hE8 : Ext wr w8 := HEN.out.grown hgrow HEN.out.lt (fun q e => (HON.out.2.2.1.lt q e).1)
    have HO8 := Lib.hid hon8
    have HE8 := Lib.hid hE8
    have HJ2 := Lib.hid (HI2.out.ext hE8)
    clear HON HEN HNC hgrow hon8 hE8
    go_wp2_with (at_builtin; refine wpList_append_ints rfl _ _ rfl _ wr.heap.size (fun _ => False) (.slice (some ⟨g, 0, none⟩) (k + 1) cap) (k + 1) (t1 ++ [(i : Int)]) (cutAt pv k cv 1) (cv - k) t2 rfl HO8.out (by rw [L2.out]; rfl) HJ2.out (fun _ h => h.elim) (by rw [L2.out]; omega) HE8.out.lt ?_)
    intro v9 w9 ho9 hgr9 _
    have hE9 : Ext wr w9 := HE8.out.grown hgr9 HE8.out.lt (fun q e => (HO8.out.2.2.1.lt q e).1)
    rw [L2.out, show k + 1 + (i - k) = i + 1 by omega] at ho9
    (try rw [List.append_assoc, List.singleton_append] at ho9)
    rw [← HNXk.out] at ho9
    have HO9 := Lib.hid (ho9.rebaseS HEr.out.lt)
    have HE9 := Lib.hid (HEr.out.trans hE9)
    obtain ⟨p9, c9, rfl, _⟩ := ho9.form
    clear ho9 hgr9 hE9 HO8 HE8 HJ2 HI2 hs2
    go_wp2_with fail
    go_roundw
    case rel => exact ⟨i + 1, _, by omega, rfl, by go_num, HRK3, HO9, HE9⟩
    case measure => simp [intOf]; omega
end Go.Proofs.Ytgkemmdghmklfaa
