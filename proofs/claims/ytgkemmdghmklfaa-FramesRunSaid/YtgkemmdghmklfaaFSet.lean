/-
  frames.Set of an array. (Printed by gen_fset.py.)
-/
import Derived.Test.YtgkemmdghmklfaaFSetL
namespace Go.Proofs.Ytgkemmdghmklfaa
set_option linter.unusedSimpArgs false
set_option linter.unusedVariables false
open Go.RowKit

theorem slot_one {F : Nat → Prop} {w : World} {l : List Slot} {cs : List Value} (hl : cs.length = l.length * 5) (h : ∀ i (h : i < l.length), SlotAt F w l[i] cs i) : ∀ v ∈ cs, v.oneCell' = true := fun v hv => by
  obtain ⟨k, hk, hkv⟩ := List.mem_iff_getElem.1 hv
  have hi : k / 5 < l.length := by omega
  obtain ⟨c0, c1, c2, c3, cw, m0, m1, m2, m3, m4, hw, ha⟩ := h _ hi
  obtain ⟨z, p1, l1, n1, p2, l2, n2, p3, l3, n3, rfl, rfl, rfl, rfl⟩ := ha.form
  have hg : cs[k]? = some v := by rw [List.getElem?_eq_getElem hk, hkv]
  have hc : k = k / 5 * 5 ∨ k = k / 5 * 5 + 1 ∨ k = k / 5 * 5 + 2 ∨ k = k / 5 * 5 + 3 ∨ k = k / 5 * 5 + 4 := by omega
  rcases hc with h | h | h | h | h
  · rw [h, m0] at hg; cases hg; rfl
  · rw [h, m1] at hg; cases hg; rfl
  · rw [h, m2] at hg; cases hg; rfl
  · rw [h, m3] at hg; cases hg; rfl
  · rw [h, m4] at hg; cases hg
    cases hf : (l[k / 5]).isFn with
    | false => rw [hf] at hw; rw [show v = .nilIface from hw]; rfl
    | true => rw [hf] at hw; obtain ⟨_, _, e⟩ : ∃ T x, v = .iface T x := hw; rw [e]; rfl

theorem addp (g m : Nat) : (⟨g, 0, none⟩ : Addr).add m = ⟨g, m, none⟩ := by
  unfold Addr.add
  split
  · rename_i h; subst h; rfl
  · simp

theorem RowC.src {T : TypeId} {w : World} {g : Nat} {cs : List Value} (h : RowC T w g cs) : ∀ j v, cs[j]? = some v → w.cell? ((⟨g, 0, none⟩ : Addr).add j) = some v := fun j v hj => by
  rw [addp]
  exact h.cell' hj

set_option maxRecDepth 100000 in
set_option maxHeartbeats 4000000 in
theorem set_any (F H : Nat → Prop) (w0 w : World) (b : Nat) (sl : List Slot) (q : Option Addr) (s : Int) (t : Arr) (c0 c1 c2 c3 : Value) (hE0 : Ext w0 w) (hb : w0.heap.size ≤ b) (hF : FrAt F w b sl q) (ha : ArrAt H w t c0 c1 c2 c3) (hs : -9223372036854775808 ≤ s ∧ s ≤ 9223372036854775807) :
    Calls Try.prog 22 #[.pointer (some ⟨b, 0, none⟩), .int .i64 s, .agg #[c0, c1, c2, c3, .nilIface]] w (SetGives F w0 w b sl q s t) := by
  obtain ⟨kk, p1, l1, n1, p2, l2, n2, p3, l3, n3, rfl, rfl, rfl, rfl⟩ := ha.form
  have HNO := Lib.hid (fun (hn : setOk sl s t = false) (w' : World) (e : Ext w w') => set_no (w0 := w0) hn hE0 hF e)
  have hE1 : Ext w (w.alloc (.cells #[.int .i64 kk, .slice p1 l1 n1, .slice p2 l2 n2, .slice p3 l3 n3, .nilIface] 38)) := (Ext.refl _).alloc _
  have hr0 := RowC.new 38 w [.int .i64 kk, .slice p1 l1 n1, .slice p2 l2 n2, .slice p3 l3 n3, .nilIface]
  change RowC _ (w.alloc (.cells #[.int .i64 kk, .slice p1 l1 n1, .slice p2 l2 n2, .slice p3 l3 n3, .nilIface] 38)) _ _ at hr0
  have HF1 := Lib.hid (hF.ext hE1)
  have HA1 := Lib.hid (ha.ext hE1)
  have HE1 := Lib.hid hE1
  have HR0 := Lib.hid hr0
  have HE0 := Lib.hid hE0
  have HFw := Lib.hid hF
  have HBL := Lib.hid hF.lt
  clear hF ha hE1 hr0 hE0
  go_enter Try.func22, Try.ntmps22
  go_upto_region 1 with (fail)
  generalize w.alloc (.cells #[.int .i64 kk, .slice p1 l1 n1, .slice p2 l2 n2, .slice p3 l3 n3, .nilIface] 38) = w1 at *
  obtain ⟨gv, gu, cs, f1, f2, f3, fb, fv, fu, nvb, nub, nvu, hcl, h16, hsl⟩ := HF1.out
  have k5 := f1.cell (j := 0) (by simp)
  have k6 := f1.cell (j := 1) (by simp)
  simp only [List.getElem_cons_zero, List.getElem_cons_succ] at k5 k6
  obtain ⟨x0, x1, x2, x3, x4⟩ := HR0.out.cell5
  have HFA := Lib.hid (And.intro f1 (And.intro f2 (And.intro f3 hsl)))
  clear f1 f2 f3 hsl
  by_cases h0 : s < 0
  · have hn : setOk sl s t = false := by unfold setOk; simp; omega
    have HN := Lib.hid hn
    clear hn
    go_wp2_with fail
    go_ret
    exact HNO.out HN.out _ HE1.out
  by_cases h1 : (sl.length : Int) ≤ s
  · have hn : setOk sl s t = false := by unfold setOk; simp; omega
    have HN := Lib.hid hn
    clear hn
    go_wp2_with fail
    go_ret
    exact HNO.out HN.out _ HE1.out
  go_wp2_with fail
  refine (right_any _ t _ _ _ _ w1 HA1.out).mono ?_
  rintro e w2 ⟨rfl, hE2⟩
  by_cases hr : rightV t = 0
  rotate_left
  · have hn : setOk sl s t = false := by unfold setOk; simp [hr]
    have HN := Lib.hid hn
    have hr1 : (rightV t != 0) = true := by simpa using hr
    generalize rightV t = rr at *
    have HE2 := Lib.hid (HE1.out.trans hE2)
    clear hn hr hE2
    go_wp2_with fail
    go_ret
    exact HNO.out HN.out _ HE2.out
  have hok : setOk sl s t = true := by unfold setOk; simp [hr]; omega
  have HOK := Lib.hid hok
  rw [hr]
  obtain ⟨j, rfl⟩ : ∃ j : Nat, s = (j : Int) := ⟨s.toNat, by omega⟩
  have hj : j < sl.length := by omega
  replace k5 := hE2.cell k5
  replace k6 := hE2.cell k6
  have HR2 := Lib.hid (HR0.out.ext hE2)
  have HA2 := Lib.hid (HA1.out.ext hE2)
  have HE12' := Lib.hid hE2
  have HE2 := Lib.hid (HE1.out.trans hE2)
  have hf2 : RowC 79 w2 b _ := HFA.out.1.ext hE2
  have HG := Lib.hid (And.intro hf2 (And.intro (HFA.out.2.1.ext hE2) (HFA.out.2.2.1.ext hE2)))
  clear hok hr h0 h1 x0 x1 x2 x3 x4 hE2 hf2
  go_upto_region 3 with (fail)
  refine wp_region_x1 [MProp.is (.pointer (some ⟨b, 0, none⟩)), MProp.is (.pointer (some ⟨b, 0, none⟩)), MProp.is (.pointer (some ⟨b, 0, none⟩)), MProp.is (.slice (some ⟨gv, 0, none⟩) sl.length sl.length), MProp.is (.int .i64 (sl.length : Int)), MProp.rowC w2.heap.size 38 ((List.range (sl.length * 5)).map fun j => (#[Value.int .i64 0, .slice none 0 0, .slice none 0 0, .slice none 0 0, .nilIface]).getD (j % 5) default) sl.length, MProp.is (.pointer (some ⟨b, 0, none⟩)), MProp.is (.pointer (some ⟨b, 0, none⟩)), MProp.is (.pointer (some ⟨b, 1, none⟩)), MProp.is (.slice (some ⟨gu, 0, none⟩) sl.length sl.length), MProp.is (.int .i64 (sl.length : Int)), MProp.rowC w2.heap.size 4 (List.replicate sl.length (Value.bool false)) sl.length, MProp.rowC w2.heap.size 38 ((List.range (sl.length * 5)).map fun j => (#[Value.int .i64 0, .slice none 0 0, .slice none 0 0, .slice none 0 0, .nilIface]).getD (j % 5) default) sl.length] [0, 1, 2, 3, 4, 5, 6, 7, 8, 9, 10, 11, 12] [] [35, 36, 37, 38, 39, 40, 41, 42, 43, 44, 45, 46, 7] 13 (by kernel_rfl) (by kernel_rfl) (by kernel_rfl) rfl ?_ ?_ ?_
  · refine mem_cons_m ?_ (mem_cons_m ?_ (mem_cons_m ?_ (mem_cons_m ?_ (mem_cons_m ?_ (mem_cons_m ?_ (mem_cons_m ?_ (mem_cons_m ?_ (mem_cons_m ?_ (mem_cons_m ?_ (mem_cons_m ?_ (mem_cons_m ?_ (mem_cons_m ?_ (mem_nil_m)))))))))))))
    · refine ⟨_, 35, rfl, by kernel_rfl, ?_⟩
      intro u w9 X hE hX hd K hK
      clear hd
      simp only [overlay, List.setIfInBounds_toArray, List.set] at hK ⊢
      go_wp2_with fail
      exact hK _ _ X (Ext.refl _) kept_m hX rfl
    · refine ⟨_, 36, rfl, by kernel_rfl, ?_⟩
      intro u w9 X hE hX hd K hK
      have d0 : u 35 = .pointer (some ⟨b, 0, none⟩) := hd 0 (by kernel_rfl)
      clear hd
      simp only [overlay, List.setIfInBounds_toArray, List.set, d0] at hK ⊢
      go_wp2_with fail
      exact hK _ _ X (Ext.refl _) kept_m hX rfl
    · refine ⟨_, 37, rfl, by kernel_rfl, ?_⟩
      intro u w9 X hE hX hd K hK
      have d1 : u 36 = .pointer (some ⟨b, 0, none⟩) := hd 1 (by kernel_rfl)
      clear hd
      simp only [overlay, List.setIfInBounds_toArray, List.set, d1] at hK ⊢
      go_wp2_with fail
      exact hK _ _ X (Ext.refl _) kept_m hX rfl
    · refine ⟨_, 38, rfl, by kernel_rfl, ?_⟩
      intro u w9 X hE hX hd K hK
      have d2 : u 37 = .pointer (some ⟨b, 0, none⟩) := hd 2 (by kernel_rfl)
      clear hd
      simp only [overlay, List.setIfInBounds_toArray, List.set, d2] at hK ⊢
      have e9 : Ext w2 w9 := (Ext.refl w2).drew.trans hE
      have a0 := e9.cell k5
      go_wp2_with fail
      exact hK _ _ X (Ext.refl _) kept_m hX rfl
    · refine ⟨_, 39, rfl, by kernel_rfl, ?_⟩
      intro u w9 X hE hX hd K hK
      have d3 : u 38 = .slice (some ⟨gv, 0, none⟩) sl.length sl.length := hd 3 (by kernel_rfl)
      clear hd
      simp only [overlay, List.setIfInBounds_toArray, List.set, d3] at hK ⊢
      go_wp2_with fail
      exact hK _ _ X (Ext.refl _) kept_m hX rfl
    · refine ⟨_, 40, rfl, by kernel_rfl, ?_⟩
      intro u w9 X hE hX hd K hK
      have d4 : u 39 = .int .i64 (sl.length : Int) := hd 4 (by kernel_rfl)
      clear hd
      simp only [overlay, List.setIfInBounds_toArray, List.set, d4] at hK ⊢
      have hle9 := hE.lt
      have hmk := run_make_vals sl.length h16 w9
      go_wp2_with fail
      exact hK _ _ X ((Ext.refl _).alloc _) kept_m (hX.ext ((Ext.refl _).alloc _)) ⟨w9.heap.size, rfl, by rw [made_vals]; exact RowC.new _ _ _, hle9⟩
    · refine ⟨_, 41, rfl, by kernel_rfl, ?_⟩
      intro u w9 X hE hX hd K hK
      clear hd
      simp only [overlay, List.setIfInBounds_toArray, List.set] at hK ⊢
      go_wp2_with fail
      exact hK _ _ X (Ext.refl _) kept_m hX rfl
    · refine ⟨_, 42, rfl, by kernel_rfl, ?_⟩
      intro u w9 X hE hX hd K hK
      have d6 : u 41 = .pointer (some ⟨b, 0, none⟩) := hd 6 (by kernel_rfl)
      clear hd
      simp only [overlay, List.setIfInBounds_toArray, List.set, d6] at hK ⊢
      go_wp2_with fail
      exact hK _ _ X (Ext.refl _) kept_m hX rfl
    · refine ⟨_, 43, rfl, by kernel_rfl, ?_⟩
      intro u w9 X hE hX hd K hK
      have d7 : u 42 = .pointer (some ⟨b, 0, none⟩) := hd 7 (by kernel_rfl)
      clear hd
      simp only [overlay, List.setIfInBounds_toArray, List.set, d7] at hK ⊢
      go_wp2_with fail
      exact hK _ _ X (Ext.refl _) kept_m hX rfl
    · refine ⟨_, 44, rfl, by kernel_rfl, ?_⟩
      intro u w9 X hE hX hd K hK
      have d8 : u 43 = .pointer (some ⟨b, 1, none⟩) := hd 8 (by kernel_rfl)
      clear hd
      simp only [overlay, List.setIfInBounds_toArray, List.set, d8] at hK ⊢
      have e9 : Ext w2 w9 := (Ext.refl w2).drew.trans hE
      have a0 := e9.cell k6
      go_wp2_with fail
      exact hK _ _ X (Ext.refl _) kept_m hX rfl
    · refine ⟨_, 45, rfl, by kernel_rfl, ?_⟩
      intro u w9 X hE hX hd K hK
      have d9 : u 44 = .slice (some ⟨gu, 0, none⟩) sl.length sl.length := hd 9 (by kernel_rfl)
      clear hd
      simp only [overlay, List.setIfInBounds_toArray, List.set, d9] at hK ⊢
      go_wp2_with fail
      exact hK _ _ X (Ext.refl _) kept_m hX rfl
    · refine ⟨_, 46, rfl, by kernel_rfl, ?_⟩
      intro u w9 X hE hX hd K hK
      have d10 : u 45 = .int .i64 (sl.length : Int) := hd 10 (by kernel_rfl)
      clear hd
      simp only [overlay, List.setIfInBounds_toArray, List.set, d10] at hK ⊢
      have hle9 := hE.lt
      have hmk := run_make_bools sl.length h16 w9
      go_wp2_with fail
      exact hK _ _ X ((Ext.refl _).alloc _) kept_m (hX.ext ((Ext.refl _).alloc _)) ⟨w9.heap.size, rfl, by rw [made_bools]; exact RowC.new _ _ _, hle9⟩
    · refine ⟨_, 7, rfl, by kernel_rfl, ?_⟩
      intro u w9 X hE hX hd K hK
      have d5 : ∃ g, u 40 = .slice (some ⟨g, 0, none⟩) sl.length sl.length ∧ RowC 38 w9 g ((List.range (sl.length * 5)).map fun j => (#[Value.int .i64 0, .slice none 0 0, .slice none 0 0, .slice none 0 0, .nilIface]).getD (j % 5) default) ∧ w2.heap.size ≤ g := hd 5 (by kernel_rfl)
      clear hd
      simp only [overlay, List.setIfInBounds_toArray, List.set] at hK ⊢
      obtain ⟨g, hv5, hr5, hb5⟩ := d5
      simp only [hv5] at hK ⊢
      go_wp2_with fail
      exact hK _ _ X (Ext.refl _) kept_m hX ⟨g, rfl, hr5, hb5⟩
  · exact mem_nil_m
  intro u w9 X hE hX hd
  have d0 : u 35 = .pointer (some ⟨b, 0, none⟩) := hd 0 (by decide)
  have d1 : u 36 = .pointer (some ⟨b, 0, none⟩) := hd 1 (by decide)
  have d2 : u 37 = .pointer (some ⟨b, 0, none⟩) := hd 2 (by decide)
  have d3 : u 38 = .slice (some ⟨gv, 0, none⟩) sl.length sl.length := hd 3 (by decide)
  have d4 : u 39 = .int .i64 (sl.length : Int) := hd 4 (by decide)
  have d5 : ∃ g, u 40 = .slice (some ⟨g, 0, none⟩) sl.length sl.length ∧ RowC 38 w9 g ((List.range (sl.length * 5)).map fun j => (#[Value.int .i64 0, .slice none 0 0, .slice none 0 0, .slice none 0 0, .nilIface]).getD (j % 5) default) ∧ w2.heap.size ≤ g := hd 5 (by decide)
  have d6 : u 41 = .pointer (some ⟨b, 0, none⟩) := hd 6 (by decide)
  have d7 : u 42 = .pointer (some ⟨b, 0, none⟩) := hd 7 (by decide)
  have d8 : u 43 = .pointer (some ⟨b, 1, none⟩) := hd 8 (by decide)
  have d9 : u 44 = .slice (some ⟨gu, 0, none⟩) sl.length sl.length := hd 9 (by decide)
  have d10 : u 45 = .int .i64 (sl.length : Int) := hd 10 (by decide)
  have d11 : ∃ g, u 46 = .slice (some ⟨g, 0, none⟩) sl.length sl.length ∧ RowC 4 w9 g (List.replicate sl.length (Value.bool false)) ∧ w2.heap.size ≤ g := hd 11 (by decide)
  have d12 : ∃ g, u 7 = .slice (some ⟨g, 0, none⟩) sl.length sl.length ∧ RowC 38 w9 g ((List.range (sl.length * 5)).map fun j => (#[Value.int .i64 0, .slice none 0 0, .slice none 0 0, .slice none 0 0, .nilIface]).getD (j % 5) default) ∧ w2.heap.size ≤ g := hd 12 (by decide)
  clear hd
  simp only [overlay, List.setIfInBounds_toArray, List.set, d0, d1, d2, d3, d4, d6, d7, d8, d9, d10]
  have e9 : Ext w2 w9 := (Ext.refl w2).drew.trans hE
  obtain ⟨gv2, hv12, hrv, hbv⟩ := d12
  obtain ⟨gu2, hv11, hru, hbu⟩ := d11
  simp only [hv12, hv11]
  have HE29 := Lib.hid e9
  have HV := Lib.hid hrv
  have HU := Lib.hid hru
  have HBV := Lib.hid (And.intro hbv hbu)
  have hne : gu2 ≠ gv2 := fun e => by
    subst e
    unfold RowC at hrv hru
    rw [hrv] at hru
    simp at hru
  have HNE := Lib.hid hne
  replace k5 := e9.cell k5
  replace k6 := e9.cell k6
  clear d0 d1 d2 d3 d4 d5 d6 d7 d8 d9 d10 hX hE e9 hrv hru hbv hbu hne
  generalize u 40 = z40 at *
  clear hv12 hv11 u
  go_wp2_with fail
  refine OnlyN.mk ?_
  have hcs1 := slot_one hcl HFA.out.2.2.2
  have HCS1 := Lib.hid hcs1
  clear hcs1
  go_wp2_with (first
    | (refine wpList_copy_whole (o := ⟨some 52, _, _, _, _, _⟩) rfl _ _ 76 76 rfl 38 5 Try.underlying76 (by obtain ⟨i0, hi, _, hz1, _⟩ := info_parts infoV; rw [hi]; simp [hz1]) sl.length gv2 sl.length ⟨gv, 0, none⟩ sl.length rfl rfl _ _ HV.out cs hcl (RowC.src (HG.out.2.1.ext HE29.out)) (by simp [hcl]) HCS1.out ?_
       have hc10 := HV.out.copied (cs := cs)
       have he10 := HE29.out.setRow HBV.out.1 cs.toArray
       have hu10 := HU.out.kept (hc10.2 gu2 HNE.out)
       have hk5 := he10.cell (HG.out.1.cell (j := 0) (by simp))
       have hk6 := he10.cell (HG.out.1.cell (j := 1) (by simp))
       simp only [List.getElem_cons_zero, List.getElem_cons_succ] at hk5 hk6
       have HV10 := Lib.hid hc10.1
       have HE10 := Lib.hid he10
       have HU10 := Lib.hid hu10
       clear k5 k6 hc10 he10 hu10 HV HU HE29
       generalize w9.setRow gv2 cs.toArray = w10 at *)
    | (refine wpList_copy_whole (o := ⟨some 58, _, _, _, _, _⟩) rfl _ _ 77 77 rfl 4 1 Try.underlying77 (by obtain ⟨i0, hi, _, hz1, _⟩ := info_parts infoBool; rw [hi]; simp [hz1]) sl.length gu2 sl.length ⟨gu, 0, none⟩ sl.length rfl rfl _ _ HU10.out (sl.map fun s => Value.bool s.used) (by simp) (RowC.src (HG.out.2.2.ext HE10.out)) (by simp) (fun v hv => by obtain ⟨x, _, rfl⟩ := List.mem_map.1 hv; rfl) ?_
       have hc11 := HU10.out.copied (cs := sl.map fun s => Value.bool s.used)
       have he11 := HE10.out.setRow HBV.out.2 (sl.map fun s => Value.bool s.used).toArray
       have hv11 := HV10.out.kept (hc11.2 gv2 (fun e => HNE.out e.symm))
       have HU11 := Lib.hid hc11.1
       have HE11 := Lib.hid he11
       have HV11 := Lib.hid hv11
       clear hk5 hk6 hc11 he11 hv11 HV10 HU10 HE10
       obtain ⟨x0, x1, x2, x3, x4⟩ := (HR2.out.ext HE11.out).cell5
       generalize w10.setRow gu2 (sl.map fun s => Value.bool s.used).toArray = w11 at *))
  refine (kept_any _ t _ _ _ _ w11 (HA2.out.ext HE11.out)).mono ?_
  rintro e w12 ⟨e0, e1, e2, e3, rfl, hC, hE12⟩
  obtain ⟨zk, zp1, zl1, zc1, zp2, zl2, zc2, zp3, zl3, zc3, rfl, rfl, rfl, rfl⟩ := hC.form
  have hE12b : Ext w2 w12 := HE11.out.trans hE12
  have hle12 : w11.heap.size ≤ w12.heap.size := hE12.lt
  have hv12 := HV11.out.ext hE12
  have hu12 := HU11.out.ext hE12
  obtain ⟨d0, d1, d2, d3, dv, m0, m1, m2, m3, m4, _⟩ := HFA.out.2.2.2 j hj
  have hvl := hv12.lt
  have hul := hu12.lt
  have hvl11 := HV11.out.lt
  have hul11 := HU11.out.lt
  have n0 := hv12.cell' m0
  have n1 := hv12.cell' m1
  have n2 := hv12.cell' m2
  have n3 := hv12.cell' m3
  have n4 := hv12.cell' m4
  have n5 := hu12.cell (j := j) (by simpa using hj)
  rw [List.getElem_map] at n5
  have y0 := hv12.free (j * 5)
  have y1 := hv12.free (j * 5 + 1)
  have y2 := hv12.free (j * 5 + 2)
  have y3 := hv12.free (j * 5 + 3)
  have y4 := hv12.free (j * 5 + 4)
  have y5 := hu12.free j
  have hb12 : RowC 79 w12 b _ := HG.out.1.ext hE12b
  have hbl2 : b < w2.heap.size := HG.out.1.lt
  have hwl : w2.heap.size ≤ gv2 ∧ w2.heap.size ≤ gu2 := HBV.out
  have b0 := hb12.cell (j := 0) (by simp)
  have b1 := hb12.cell (j := 1) (by simp)
  simp only [List.getElem_cons_zero, List.getElem_cons_succ] at b0 b1
  have z0 := hb12.free 0
  have z1 := hb12.free 1
  have HC := Lib.hid hC
  have HV12 := Lib.hid hv12
  have HU12 := Lib.hid hu12
  have HB12 := Lib.hid hb12
  have HE12 := Lib.hid hE12b
  have HLL := Lib.hid (And.intro hle12 (And.intro hvl11 (And.intro hul11 (And.intro hbl2 hwl))))
  clear hC hE12 hE12b hv12 hu12 hb12 HV11 HU11 x0 x1 x2 x3 x4 m0 m1 m2 m3 m4 hle12
  have hngb : gv2 ≠ b := by omega
  have hnub : gu2 ≠ b := by omega
  have hngb' : b ≠ gv2 := by omega
  have hnub' : b ≠ gu2 := by omega
  have hne := HNE.out
  have hne' : gv2 ≠ gu2 := fun e => hne e.symm
  go_wp2_with fail
  go_ret
  exact fset_end HOK.out HE0.out hb HBL.out fb HE1.out HE12'.out HE12.out HLL.out.1 HFA.out.2.2.2 hcl h16 hj HV12.out HU12.out HB12.out HLL.out.2.2.2.2.1 HLL.out.2.2.2.2.2 HLL.out.2.1 HLL.out.2.2.1 HNE.out HC.out
set_option maxRecDepth 100000 in
set_option maxHeartbeats 4000000 in
theorem set_anyF (F : Nat → Prop) (w0 w : World) (b : Nat) (sl : List Slot) (q : Option Addr) (s : Int) (kk : Int) (p1 p2 p3 : Option Addr) (l1 n1 l2 n2 l3 n3 : Nat) (T9 : TypeId) (y9 : Value) (hE0 : Ext w0 w) (hb : w0.heap.size ≤ b) (hF : FrAt F w b sl q) (hs : -9223372036854775808 ≤ s ∧ s ≤ 9223372036854775807) :
    Calls Try.prog 22 #[.pointer (some ⟨b, 0, none⟩), .int .i64 s, .agg #[.int .i64 kk, .slice p1 l1 n1, .slice p2 l2 n2, .slice p3 l3 n3, .iface T9 y9]] w (SetGivesF F w0 w b sl q s) := by
  have HNO := Lib.hid (fun (hn : setOkF sl s = false) (w' : World) (e : Ext w w') => set_noF (w0 := w0) hn hE0 hF e)
  have hE1 : Ext w (w.alloc (.cells #[.int .i64 kk, .slice p1 l1 n1, .slice p2 l2 n2, .slice p3 l3 n3, .iface T9 y9] 38)) := (Ext.refl _).alloc _
  have hr0 := RowC.new 38 w [.int .i64 kk, .slice p1 l1 n1, .slice p2 l2 n2, .slice p3 l3 n3, .iface T9 y9]
  change RowC _ (w.alloc (.cells #[.int .i64 kk, .slice p1 l1 n1, .slice p2 l2 n2, .slice p3 l3 n3, .iface T9 y9] 38)) _ _ at hr0
  have HF1 := Lib.hid (hF.ext hE1)
  have HE1 := Lib.hid hE1
  have HR0 := Lib.hid hr0
  have HE0 := Lib.hid hE0
  have HFw := Lib.hid hF
  have HBL := Lib.hid hF.lt
  clear hF hE1 hr0 hE0
  go_enter Try.func22, Try.ntmps22
  go_upto_region 1 with (fail)
  generalize w.alloc (.cells #[.int .i64 kk, .slice p1 l1 n1, .slice p2 l2 n2, .slice p3 l3 n3, .iface T9 y9] 38) = w1 at *
  obtain ⟨gv, gu, cs, f1, f2, f3, fb, fv, fu, nvb, nub, nvu, hcl, h16, hsl⟩ := HF1.out
  have k5 := f1.cell (j := 0) (by simp)
  have k6 := f1.cell (j := 1) (by simp)
  simp only [List.getElem_cons_zero, List.getElem_cons_succ] at k5 k6
  obtain ⟨x0, x1, x2, x3, x4⟩ := HR0.out.cell5
  have HFA := Lib.hid (And.intro f1 (And.intro f2 (And.intro f3 hsl)))
  clear f1 f2 f3 hsl
  by_cases h0 : s < 0
  · have hn : setOkF sl s = false := by unfold setOkF; simp; omega
    have HN := Lib.hid hn
    clear hn
    go_wp2_with fail
    go_ret
    exact HNO.out HN.out _ HE1.out
  by_cases h1 : (sl.length : Int) ≤ s
  · have hn : setOkF sl s = false := by unfold setOkF; simp; omega
    have HN := Lib.hid hn
    clear hn
    go_wp2_with fail
    go_ret
    exact HNO.out HN.out _ HE1.out
  have hok : setOkF sl s = true := by unfold setOkF; simp; omega
  have HOK := Lib.hid hok
  obtain ⟨w2, rfl⟩ : ∃ wx : World, wx = w1 := ⟨_, rfl⟩
  have hE2 : Ext w2 w2 := Ext.refl _
  obtain ⟨j, rfl⟩ : ∃ j : Nat, s = (j : Int) := ⟨s.toNat, by omega⟩
  have hj : j < sl.length := by omega
  replace k5 := hE2.cell k5
  replace k6 := hE2.cell k6
  have HR2 := Lib.hid (HR0.out.ext hE2)
  have HE12' := Lib.hid hE2
  have HE2 := Lib.hid (HE1.out.trans hE2)
  have hf2 : RowC 79 w2 b _ := HFA.out.1.ext hE2
  have HG := Lib.hid (And.intro hf2 (And.intro (HFA.out.2.1.ext hE2) (HFA.out.2.2.1.ext hE2)))
  clear hok hE2 hf2
  go_upto_region 3 with (fail)
  clear h0 h1 x0 x1 x2 x3 x4
  refine wp_region_x1 [MProp.is (.pointer (some ⟨b, 0, none⟩)), MProp.is (.pointer (some ⟨b, 0, none⟩)), MProp.is (.pointer (some ⟨b, 0, none⟩)), MProp.is (.slice (some ⟨gv, 0, none⟩) sl.length sl.length), MProp.is (.int .i64 (sl.length : Int)), MProp.rowC w2.heap.size 38 ((List.range (sl.length * 5)).map fun j => (#[Value.int .i64 0, .slice none 0 0, .slice none 0 0, .slice none 0 0, .nilIface]).getD (j % 5) default) sl.length, MProp.is (.pointer (some ⟨b, 0, none⟩)), MProp.is (.pointer (some ⟨b, 0, none⟩)), MProp.is (.pointer (some ⟨b, 1, none⟩)), MProp.is (.slice (some ⟨gu, 0, none⟩) sl.length sl.length), MProp.is (.int .i64 (sl.length : Int)), MProp.rowC w2.heap.size 4 (List.replicate sl.length (Value.bool false)) sl.length, MProp.rowC w2.heap.size 38 ((List.range (sl.length * 5)).map fun j => (#[Value.int .i64 0, .slice none 0 0, .slice none 0 0, .slice none 0 0, .nilIface]).getD (j % 5) default) sl.length] [0, 1, 2, 3, 4, 5, 6, 7, 8, 9, 10, 11, 12] [] [35, 36, 37, 38, 39, 40, 41, 42, 43, 44, 45, 46, 7] 13 (by kernel_rfl) (by kernel_rfl) (by kernel_rfl) rfl ?_ ?_ ?_
  · refine mem_cons_m ?_ (mem_cons_m ?_ (mem_cons_m ?_ (mem_cons_m ?_ (mem_cons_m ?_ (mem_cons_m ?_ (mem_cons_m ?_ (mem_cons_m ?_ (mem_cons_m ?_ (mem_cons_m ?_ (mem_cons_m ?_ (mem_cons_m ?_ (mem_cons_m ?_ (mem_nil_m)))))))))))))
    · refine ⟨_, 35, rfl, by kernel_rfl, ?_⟩
      intro u w9 X hE hX hd K hK
      clear hd
      simp only [overlay, List.setIfInBounds_toArray, List.set] at hK ⊢
      go_wp2_with fail
      exact hK _ _ X (Ext.refl _) kept_m hX rfl
    · refine ⟨_, 36, rfl, by kernel_rfl, ?_⟩
      intro u w9 X hE hX hd K hK
      have d0 : u 35 = .pointer (some ⟨b, 0, none⟩) := hd 0 (by kernel_rfl)
      clear hd
      simp only [overlay, List.setIfInBounds_toArray, List.set, d0] at hK ⊢
      go_wp2_with fail
      exact hK _ _ X (Ext.refl _) kept_m hX rfl
    · refine ⟨_, 37, rfl, by kernel_rfl, ?_⟩
      intro u w9 X hE hX hd K hK
      have d1 : u 36 = .pointer (some ⟨b, 0, none⟩) := hd 1 (by kernel_rfl)
      clear hd
      simp only [overlay, List.setIfInBounds_toArray, List.set, d1] at hK ⊢
      go_wp2_with fail
      exact hK _ _ X (Ext.refl _) kept_m hX rfl
    · refine ⟨_, 38, rfl, by kernel_rfl, ?_⟩
      intro u w9 X hE hX hd K hK
      have d2 : u 37 = .pointer (some ⟨b, 0, none⟩) := hd 2 (by kernel_rfl)
      clear hd
      simp only [overlay, List.setIfInBounds_toArray, List.set, d2] at hK ⊢
      have e9 : Ext w2 w9 := (Ext.refl w2).drew.trans hE
      have a0 := e9.cell k5
      go_wp2_with fail
      exact hK _ _ X (Ext.refl _) kept_m hX rfl
    · refine ⟨_, 39, rfl, by kernel_rfl, ?_⟩
      intro u w9 X hE hX hd K hK
      have d3 : u 38 = .slice (some ⟨gv, 0, none⟩) sl.length sl.length := hd 3 (by kernel_rfl)
      clear hd
      simp only [overlay, List.setIfInBounds_toArray, List.set, d3] at hK ⊢
      go_wp2_with fail
      exact hK _ _ X (Ext.refl _) kept_m hX rfl
    · refine ⟨_, 40, rfl, by kernel_rfl, ?_⟩
      intro u w9 X hE hX hd K hK
      have d4 : u 39 = .int .i64 (sl.length : Int) := hd 4 (by kernel_rfl)
      clear hd
      simp only [overlay, List.setIfInBounds_toArray, List.set, d4] at hK ⊢
      have hle9 := hE.lt
      have hmk := run_make_vals sl.length h16 w9
      go_wp2_with fail
      exact hK _ _ X ((Ext.refl _).alloc _) kept_m (hX.ext ((Ext.refl _).alloc _)) ⟨w9.heap.size, rfl, by rw [made_vals]; exact RowC.new _ _ _, hle9⟩
    · refine ⟨_, 41, rfl, by kernel_rfl, ?_⟩
      intro u w9 X hE hX hd K hK
      clear hd
      simp only [overlay, List.setIfInBounds_toArray, List.set] at hK ⊢
      go_wp2_with fail
      exact hK _ _ X (Ext.refl _) kept_m hX rfl
    · refine ⟨_, 42, rfl, by kernel_rfl, ?_⟩
      intro u w9 X hE hX hd K hK
      have d6 : u 41 = .pointer (some ⟨b, 0, none⟩) := hd 6 (by kernel_rfl)
      clear hd
      simp only [overlay, List.setIfInBounds_toArray, List.set, d6] at hK ⊢
      go_wp2_with fail
      exact hK _ _ X (Ext.refl _) kept_m hX rfl
    · refine ⟨_, 43, rfl, by kernel_rfl, ?_⟩
      intro u w9 X hE hX hd K hK
      have d7 : u 42 = .pointer (some ⟨b, 0, none⟩) := hd 7 (by kernel_rfl)
      clear hd
      simp only [overlay, List.setIfInBounds_toArray, List.set, d7] at hK ⊢
      go_wp2_with fail
      exact hK _ _ X (Ext.refl _) kept_m hX rfl
    · refine ⟨_, 44, rfl, by kernel_rfl, ?_⟩
      intro u w9 X hE hX hd K hK
      have d8 : u 43 = .pointer (some ⟨b, 1, none⟩) := hd 8 (by kernel_rfl)
      clear hd
      simp only [overlay, List.setIfInBounds_toArray, List.set, d8] at hK ⊢
      have e9 : Ext w2 w9 := (Ext.refl w2).drew.trans hE
      have a0 := e9.cell k6
      go_wp2_with fail
      exact hK _ _ X (Ext.refl _) kept_m hX rfl
    · refine ⟨_, 45, rfl, by kernel_rfl, ?_⟩
      intro u w9 X hE hX hd K hK
      have d9 : u 44 = .slice (some ⟨gu, 0, none⟩) sl.length sl.length := hd 9 (by kernel_rfl)
      clear hd
      simp only [overlay, List.setIfInBounds_toArray, List.set, d9] at hK ⊢
      go_wp2_with fail
      exact hK _ _ X (Ext.refl _) kept_m hX rfl
    · refine ⟨_, 46, rfl, by kernel_rfl, ?_⟩
      intro u w9 X hE hX hd K hK
      have d10 : u 45 = .int .i64 (sl.length : Int) := hd 10 (by kernel_rfl)
      clear hd
      simp only [overlay, List.setIfInBounds_toArray, List.set, d10] at hK ⊢
      have hle9 := hE.lt
      have hmk := run_make_bools sl.length h16 w9
      go_wp2_with fail
      exact hK _ _ X ((Ext.refl _).alloc _) kept_m (hX.ext ((Ext.refl _).alloc _)) ⟨w9.heap.size, rfl, by rw [made_bools]; exact RowC.new _ _ _, hle9⟩
    · refine ⟨_, 7, rfl, by kernel_rfl, ?_⟩
      intro u w9 X hE hX hd K hK
      have d5 : ∃ g, u 40 = .slice (some ⟨g, 0, none⟩) sl.length sl.length ∧ RowC 38 w9 g ((List.range (sl.length * 5)).map fun j => (#[Value.int .i64 0, .slice none 0 0, .slice none 0 0, .slice none 0 0, .nilIface]).getD (j % 5) default) ∧ w2.heap.size ≤ g := hd 5 (by kernel_rfl)
      clear hd
      simp only [overlay, List.setIfInBounds_toArray, List.set] at hK ⊢
      obtain ⟨g, hv5, hr5, hb5⟩ := d5
      simp only [hv5] at hK ⊢
      go_wp2_with fail
      exact hK _ _ X (Ext.refl _) kept_m hX ⟨g, rfl, hr5, hb5⟩
  · exact mem_nil_m
  intro u w9 X hE hX hd
  have d0 : u 35 = .pointer (some ⟨b, 0, none⟩) := hd 0 (by decide)
  have d1 : u 36 = .pointer (some ⟨b, 0, none⟩) := hd 1 (by decide)
  have d2 : u 37 = .pointer (some ⟨b, 0, none⟩) := hd 2 (by decide)
  have d3 : u 38 = .slice (some ⟨gv, 0, none⟩) sl.length sl.length := hd 3 (by decide)
  have d4 : u 39 = .int .i64 (sl.length : Int) := hd 4 (by decide)
  have d5 : ∃ g, u 40 = .slice (some ⟨g, 0, none⟩) sl.length sl.length ∧ RowC 38 w9 g ((List.range (sl.length * 5)).map fun j => (#[Value.int .i64 0, .slice none 0 0, .slice none 0 0, .slice none 0 0, .nilIface]).getD (j % 5) default) ∧ w2.heap.size ≤ g := hd 5 (by decide)
  have d6 : u 41 = .pointer (some ⟨b, 0, none⟩) := hd 6 (by decide)
  have d7 : u 42 = .pointer (some ⟨b, 0, none⟩) := hd 7 (by decide)
  have d8 : u 43 = .pointer (some ⟨b, 1, none⟩) := hd 8 (by decide)
  have d9 : u 44 = .slice (some ⟨gu, 0, none⟩) sl.length sl.length := hd 9 (by decide)
  have d10 : u 45 = .int .i64 (sl.length : Int) := hd 10 (by decide)
  have d11 : ∃ g, u 46 = .slice (some ⟨g, 0, none⟩) sl.length sl.length ∧ RowC 4 w9 g (List.replicate sl.length (Value.bool false)) ∧ w2.heap.size ≤ g := hd 11 (by decide)
  have d12 : ∃ g, u 7 = .slice (some ⟨g, 0, none⟩) sl.length sl.length ∧ RowC 38 w9 g ((List.range (sl.length * 5)).map fun j => (#[Value.int .i64 0, .slice none 0 0, .slice none 0 0, .slice none 0 0, .nilIface]).getD (j % 5) default) ∧ w2.heap.size ≤ g := hd 12 (by decide)
  clear hd
  simp only [overlay, List.setIfInBounds_toArray, List.set, d0, d1, d2, d3, d4, d6, d7, d8, d9, d10]
  have e9 : Ext w2 w9 := (Ext.refl w2).drew.trans hE
  obtain ⟨gv2, hv12, hrv, hbv⟩ := d12
  obtain ⟨gu2, hv11, hru, hbu⟩ := d11
  simp only [hv12, hv11]
  have HE29 := Lib.hid e9
  have HV := Lib.hid hrv
  have HU := Lib.hid hru
  have HBV := Lib.hid (And.intro hbv hbu)
  have hne : gu2 ≠ gv2 := fun e => by
    subst e
    unfold RowC at hrv hru
    rw [hrv] at hru
    simp at hru
  have HNE := Lib.hid hne
  replace k5 := e9.cell k5
  replace k6 := e9.cell k6
  clear d0 d1 d2 d3 d4 d5 d6 d7 d8 d9 d10 hX hE e9 hrv hru hbv hbu hne
  generalize u 40 = z40 at *
  clear hv12 hv11 u
  go_wp2_with fail
  refine OnlyN.mk ?_
  have hcs1 := slot_one hcl HFA.out.2.2.2
  have HCS1 := Lib.hid hcs1
  clear hcs1
  go_wp2_with (first
    | (refine wpList_copy_whole (o := ⟨some 52, _, _, _, _, _⟩) rfl _ _ 76 76 rfl 38 5 Try.underlying76 (by obtain ⟨i0, hi, _, hz1, _⟩ := info_parts infoV; rw [hi]; simp [hz1]) sl.length gv2 sl.length ⟨gv, 0, none⟩ sl.length rfl rfl _ _ HV.out cs hcl (RowC.src (HG.out.2.1.ext HE29.out)) (by simp [hcl]) HCS1.out ?_
       have hc10 := HV.out.copied (cs := cs)
       have he10 := HE29.out.setRow HBV.out.1 cs.toArray
       have hu10 := HU.out.kept (hc10.2 gu2 HNE.out)
       have hk5 := he10.cell (HG.out.1.cell (j := 0) (by simp))
       have hk6 := he10.cell (HG.out.1.cell (j := 1) (by simp))
       simp only [List.getElem_cons_zero, List.getElem_cons_succ] at hk5 hk6
       have HV10 := Lib.hid hc10.1
       have HE10 := Lib.hid he10
       have HU10 := Lib.hid hu10
       clear k5 k6 hc10 he10 hu10 HV HU HE29
       generalize w9.setRow gv2 cs.toArray = w10 at *)
    | (refine wpList_copy_whole (o := ⟨some 58, _, _, _, _, _⟩) rfl _ _ 77 77 rfl 4 1 Try.underlying77 (by obtain ⟨i0, hi, _, hz1, _⟩ := info_parts infoBool; rw [hi]; simp [hz1]) sl.length gu2 sl.length ⟨gu, 0, none⟩ sl.length rfl rfl _ _ HU10.out (sl.map fun s => Value.bool s.used) (by simp) (RowC.src (HG.out.2.2.ext HE10.out)) (by simp) (fun v hv => by obtain ⟨x, _, rfl⟩ := List.mem_map.1 hv; rfl) ?_
       have hc11 := HU10.out.copied (cs := sl.map fun s => Value.bool s.used)
       have he11 := HE10.out.setRow HBV.out.2 (sl.map fun s => Value.bool s.used).toArray
       have hv11 := HV10.out.kept (hc11.2 gv2 (fun e => HNE.out e.symm))
       have HU11 := Lib.hid hc11.1
       have HE11 := Lib.hid he11
       have HV11 := Lib.hid hv11
       clear hk5 hk6 hc11 he11 hv11 HV10 HU10 HE10
       obtain ⟨x0, x1, x2, x3, x4⟩ := (HR2.out.ext HE11.out).cell5
       generalize w10.setRow gu2 (sl.map fun s => Value.bool s.used).toArray = w11 at *))
  refine (kept_fun _ _ _ _ _ _ _ _ _ _ T9 y9 w11).mono ?_
  rintro e w12 ⟨rfl, hE12⟩
  have hC : ArrAt (fun b => w11.heap.size ≤ b) w12 Arr.zero (.int .i64 0) (.slice none 0 0) (.slice none 0 0) (.slice none 0 0) := Arr.zero_at _ _
  have hE12b : Ext w2 w12 := HE11.out.trans hE12
  have hle12 : w11.heap.size ≤ w12.heap.size := hE12.lt
  have hv12 := HV11.out.ext hE12
  have hu12 := HU11.out.ext hE12
  obtain ⟨d0, d1, d2, d3, dv, m0, m1, m2, m3, m4, _⟩ := HFA.out.2.2.2 j hj
  have hvl := hv12.lt
  have hul := hu12.lt
  have hvl11 := HV11.out.lt
  have hul11 := HU11.out.lt
  have n0 := hv12.cell' m0
  have n1 := hv12.cell' m1
  have n2 := hv12.cell' m2
  have n3 := hv12.cell' m3
  have n4 := hv12.cell' m4
  have n5 := hu12.cell (j := j) (by simpa using hj)
  rw [List.getElem_map] at n5
  have y0 := hv12.free (j * 5)
  have y1 := hv12.free (j * 5 + 1)
  have y2 := hv12.free (j * 5 + 2)
  have y3 := hv12.free (j * 5 + 3)
  have y4 := hv12.free (j * 5 + 4)
  have y5 := hu12.free j
  have hb12 : RowC 79 w12 b _ := HG.out.1.ext hE12b
  have hbl2 : b < w2.heap.size := HG.out.1.lt
  have hwl : w2.heap.size ≤ gv2 ∧ w2.heap.size ≤ gu2 := HBV.out
  have b0 := hb12.cell (j := 0) (by simp)
  have b1 := hb12.cell (j := 1) (by simp)
  simp only [List.getElem_cons_zero, List.getElem_cons_succ] at b0 b1
  have z0 := hb12.free 0
  have z1 := hb12.free 1
  have HC := Lib.hid hC
  have HV12 := Lib.hid hv12
  have HU12 := Lib.hid hu12
  have HB12 := Lib.hid hb12
  have HE12 := Lib.hid hE12b
  have HLL := Lib.hid (And.intro hle12 (And.intro hvl11 (And.intro hul11 (And.intro hbl2 hwl))))
  clear hC hE12 hE12b hv12 hu12 hb12 HV11 HU11 x0 x1 x2 x3 x4 m0 m1 m2 m3 m4 hle12
  have hngb : gv2 ≠ b := by omega
  have hnub : gu2 ≠ b := by omega
  have hngb' : b ≠ gv2 := by omega
  have hnub' : b ≠ gu2 := by omega
  have hne := HNE.out
  have hne' : gv2 ≠ gu2 := fun e => hne e.symm
  go_wp2_with fail
  go_ret
  exact fset_endF ⟨_, _, rfl⟩ HE0.out hb HBL.out fb HE1.out HE12'.out HE12.out HLL.out.1 HFA.out.2.2.2 hcl h16 hj HV12.out HU12.out HB12.out HLL.out.2.2.2.2.1 HLL.out.2.2.2.2.2 HLL.out.2.1 HLL.out.2.2.1 HNE.out HC.out
end Go.Proofs.Ytgkemmdghmklfaa
