/-
  THE WALK of the reference's transposed. (Printed by gen_trans.py.)
-/
import Derived.Test.YtcmnlnamgnbemaaTransLaw
import Derived.Test.YtcmnlnamgnbemaaMkB
import Derived.Test.YtcmnlnamgnbemaaAxes
import Derived.Test.YtcmnlnamgnbemaaRClone
namespace Go.Proofs.Ytcmnlnamgnbemaa
set_option linter.unusedSimpArgs false
set_option linter.unusedVariables false
open Go.RowKit

set_option maxRecDepth 100000 in
set_option maxHeartbeats 8000000 in
theorem transposed_any (F H : Nat → Prop) (p1 : Option Addr) (cc1 : Nat) (l s : List Int) (k : Int) (n : List Int) (it : List Arr) (d0 d1 d2 d3 : Value) (w : World) (hl : IntsAt F w p1 l) (hy : ArrAt H w (.mk k s n it) d0 d1 d2 d3)
    (hlen : l.length = s.length) (h8 : s.length ≤ 8) (hr : rightGo 1 s = true) (hrange : ∀ a ∈ l, 0 ≤ a ∧ a < s.length) (hn : k ≠ 3 → (n.length : Int) = shapeSize s) (hi : k = 3 → (it.length : Int) = shapeSize s) :
    Calls Try.prog 65 #[.slice p1 l.length cc1, .agg #[d0, d1, d2, d3]] w fun e w' =>
      ∃ e0 e1 e2 e3, e = .returned (.agg #[e0, e1, e2, e3]) ∧ ArrAt (fun b => w.heap.size ≤ b) w' (transV l (.mk k s n it)) e0 e1 e2 e3 ∧ Ext w w' := by
  unfold ArrAt at hy
  obtain ⟨rfl, hk, ⟨q1, m1, rfl, ⟨o1, o1', o1''⟩, i1⟩, ⟨q2, m2, rfl, ⟨o2, o2', o2''⟩, i2⟩, ⟨q3, m3, rfl, ⟨o3, o3', o3''⟩, i3⟩⟩ := hy
  have HNN := Lib.hid (fun x hx => (rightGo_nonneg s 1 hr x hx).1)
  have HNB := Lib.hid (rightGo_nonneg s 1 hr)
  have HRG := Lib.hid hrange
  have hab := axGo_bd l 0 8 (by omega) (by omega) (fun a ha => by have := hrange a ha; omega)
  have HAL := Lib.hid (axGo_lt l 0)
  generalize hres : transV l (.mk k s n it) = res
  unfold transV at hres
  generalize hax : axGo 0 l = AX at *
  obtain ⟨ax, rfl⟩ := Int.eq_ofNat_of_zero_le hab.1
  rw [Int.toNat_natCast] at hres
  have hax8 : ax ≤ 8 := by omega
  have HAX := Lib.hid hax
  have HRES := Lib.hid hres
  have HR := Lib.hid hr
  have HN := Lib.hid hn
  have HI := Lib.hid hi
  have HLEN := Lib.hid hlen
  have hl8 : l.length ≤ 8 := by omega
  have HL := Lib.hid hl
  have I1 := Lib.hid i1
  have I2 := Lib.hid i2
  have I3 := Lib.hid i3
  clear hax hres hr hn hi hlen hl i1 i2 i3 hrange hab
  go_enter Try.func65, Try.ntmps65
  go_wp2_with fail
  have hE0 : Ext w ((w.alloc (.cells #[.int .i64 k, .slice q1 s.length m1, .slice q2 n.length m2, .slice q3 it.length m3] 26)).alloc (.cells #[.int .i64 0, .slice none 0 0, .slice none 0 0, .slice none 0 0] 26)) := ((Ext.refl _).alloc _).alloc _
  have hB1 := (box_new w (.int .i64 k) (.slice q1 s.length m1) (.slice q2 n.length m2) (.slice q3 it.length m3)).ext ((Ext.refl _).alloc (.cells #[.int .i64 0, .slice none 0 0, .slice none 0 0, .slice none 0 0] 26))
  have hB2 := box_new (w.alloc (.cells #[.int .i64 k, .slice q1 s.length m1, .slice q2 n.length m2, .slice q3 it.length m3] 26)) (.int .i64 0) (.slice none 0 0) (.slice none 0 0) (.slice none 0 0)
  have hsz1 : ((w.alloc (.cells #[.int .i64 k, .slice q1 s.length m1, .slice q2 n.length m2, .slice q3 it.length m3] 26)).alloc (.cells #[.int .i64 0, .slice none 0 0, .slice none 0 0, .slice none 0 0] 26)).heap.size = w.heap.size + 2 := by simp
  rw [World.size_alloc] at hB2
  generalize ((w.alloc (.cells #[.int .i64 k, .slice q1 s.length m1, .slice q2 n.length m2, .slice q3 it.length m3] 26)).alloc (.cells #[.int .i64 0, .slice none 0 0, .slice none 0 0, .slice none 0 0] 26)) = w1 at hE0 hB1 hB2 hsz1 ⊢
  have HB1 := Lib.hid hB1
  have HB2 := Lib.hid hB2
  have HL1 := Lib.hid (HL.out.ext hE0)
  clear hB1 hB2
  go_loop [5, 6] (fun ax' i => ∃ (q : Nat) (acc : Int), q ≤ l.length ∧ i = .int .i64 q ∧ ax' = .int .i64 acc ∧ 0 ≤ acc ∧ acc ≤ 8 ∧ Hid (axGo acc (l.drop q) = ax)) (fun _ i => l.length - (intOf i).toNat)
  case atStart => exact ⟨0, 0, Nat.zero_le _, rfl, rfl, by omega, by omega, HAX.out⟩
  case round =>
    obtain ⟨q, acc, hq, rfl, rfl, ha0, ha1, HA⟩ := hrel
    by_cases hlt : q < l.length
    · obtain ⟨b, off, rfl, hc, _, _⟩ := HL1.out.get hlt
      have HD := Lib.hid (drop_getD hlt)
      have hra := HRG.out (l.getD q 0) (by simp [List.getD, hlt])
      generalize l.getD q 0 = a at *
      have HA' : Hid (axGo (max acc (a + 1)) (l.drop (q + 1)) = ax) := by
        have := HA.out
        rw [HD.out, axGo] at this
        exact this
      clear HA HD
      go_wp2_with fail
      go_round
      case rel => exact ⟨q + 1, max acc (a + 1), by omega, by go_num, by rw [max_spelt], by omega, by omega, HA'.out⟩
      case measure => simp [intOf]; omega
    have hacc : acc = ax := by
      have := HA.out
      rw [List.drop_of_length_le (by omega), axGo] at this
      exact this
    subst hacc
    clear HA
    have hmk := run_make_ints ax (by omega)
    go_wp2_with fail
    refine wp_region_x1 [MProp.is (.pointer (some ⟨w.heap.size, 0, none⟩)), MProp.is (.int .i64 k), MProp.is (.int .i64 ax), MProp.row w1.heap.size ax (List.replicate ax 0), MProp.rowAgg w1.heap.size ax k (List.replicate ax 0), MProp.box] [0, 1, 2, 3, 4, 5] [] [31, 32, 33, 34, 35, 7] 6 (by kernel_rfl) (by kernel_rfl) rfl rfl ?_ ?_ ?_
    · refine mem_cons_m ?_ (mem_cons_m ?_ (mem_cons_m ?_ (mem_cons_m ?_ (mem_cons_m ?_ (mem_cons_m ?_ (mem_nil_m))))))
      · refine ⟨_, 31, rfl, by kernel_rfl, ?_⟩
        intro u w9 X hE hX hd K hK
        clear hd
        simp only [overlay, List.setIfInBounds_toArray, List.set] at hK ⊢
        go_wp2_with fail
        exact hK _ _ X (Ext.refl _) kept_m hX rfl
      · refine ⟨_, 32, rfl, by kernel_rfl, ?_⟩
        intro u w9 X hE hX hd K hK
        have d0 : u 31 = .pointer (some ⟨w.heap.size, 0, none⟩) := hd 0 (by kernel_rfl)
        clear hd
        simp only [overlay, List.setIfInBounds_toArray, List.set, d0] at hK ⊢
        obtain ⟨s0, s1, s2, s3⟩ := (HB1.out.ext ((Ext.refl w1).drew.trans hE)).cell
        go_wp2_with fail
        exact hK _ _ X (Ext.refl _) kept_m hX rfl
      · refine ⟨_, 33, rfl, by kernel_rfl, ?_⟩
        intro u w9 X hE hX hd K hK
        clear hd
        simp only [overlay, List.setIfInBounds_toArray, List.set] at hK ⊢
        go_wp2_with fail
        exact hK _ _ X (Ext.refl _) kept_m hX rfl
      · refine ⟨_, 34, rfl, by kernel_rfl, ?_⟩
        intro u w9 X hE hX hd K hK
        have d2 : u 33 = .int .i64 ax := hd 2 (by kernel_rfl)
        clear hd
        simp only [overlay, List.setIfInBounds_toArray, List.set, d2] at hK ⊢
        have hlt := hE.lt
        have hlt' : w1.heap.size ≤ w9.heap.size := hlt
        clear hlt
        go_wp2_with fail
        exact hK _ _ X ((Ext.refl _).alloc _) kept_m (hX.ext ((Ext.refl _).alloc _)) ⟨_, rfl, RowI.made ax, hlt', fun hx => by have := (hX _ hx).2; omega⟩
      · refine ⟨_, 35, rfl, by kernel_rfl, ?_⟩
        intro u w9 X hE hX hd K hK
        have d1 : u 32 = .int .i64 k := hd 1 (by kernel_rfl)
        have d3 : ∃ g, u 34 = .slice (some ⟨g, 0, none⟩) ax ax ∧ RowI w9 g (List.replicate ax 0) ∧ w1.heap.size ≤ g ∧ ¬ X g := hd 3 (by kernel_rfl)
        clear hd
        simp only [overlay, List.setIfInBounds_toArray, List.set, d1] at hK ⊢
        obtain ⟨g, hv3, hr3, hb3, hx3⟩ := d3
        simp only [hv3] at hK ⊢
        go_wp2_with fail
        exact hK _ _ X (Ext.refl _) kept_m hX ⟨g, rfl, hr3, hb3, hx3⟩
      · refine ⟨_, 7, rfl, by kernel_rfl, ?_⟩
        intro u w9 X hE hX hd K hK
        clear hd
        simp only [overlay, List.setIfInBounds_toArray, List.set] at hK ⊢
        go_wp2_with fail
        exact hK _ _ (fun b => X b ∨ b = w9.heap.size) ((Ext.refl _).alloc _) added_m (hX.add hE _) ⟨_, rfl, box_new _ _ _ _ _, .inr rfl⟩
    · exact mem_nil_m
    intro u w9 X hE hX hd
    have d0 : u 31 = .pointer (some ⟨w.heap.size, 0, none⟩) := hd 0 (by decide)
    have d1 : u 32 = .int .i64 k := hd 1 (by decide)
    have d2 : u 33 = .int .i64 ax := hd 2 (by decide)
    have d3 : ∃ g, u 34 = .slice (some ⟨g, 0, none⟩) ax ax ∧ RowI w9 g (List.replicate ax 0) ∧ w1.heap.size ≤ g ∧ ¬ X g := hd 3 (by decide)
    have d4 : ∃ g, u 35 = .agg #[.int .i64 k, .slice (some ⟨g, 0, none⟩) ax ax, .slice none 0 0, .slice none 0 0] ∧ RowI w9 g (List.replicate ax 0) ∧ w1.heap.size ≤ g ∧ ¬ X g := hd 4 (by decide)
    have d5 : ∃ b, u 7 = .pointer (some ⟨b, 0, none⟩) ∧ Box4 w9 b (.int .i64 0) (.slice none 0 0) (.slice none 0 0) (.slice none 0 0) ∧ X b := hd 5 (by decide)
    clear hd
    simp only [overlay, List.setIfInBounds_toArray, List.set, d0, d1, d2]
    obtain ⟨gs, hv4, hr4, hb4, hx4⟩ := d4
    obtain ⟨bo, hv5, hbox, hxb⟩ := d5
    have hne : gs ≠ bo := fun e => hx4 (by rw [e]; exact hxb)
    have hbo := hX bo hxb
    clear d3
    simp only [hv4, hv5]
    obtain ⟨t0, t1, t2, t3⟩ := hbox.cell
    have f0 := hbox.free 0
    have f1 := hbox.free 1
    have f2 := hbox.free 2
    have f3 := hbox.free 3
    have e9 : Ext w1 w9 := (Ext.refl w1).drew.trans hE
    generalize u 34 = j34
    clear hv4 hv5 hX hxb hx4
    go_wp2_with fail
    refine OnlyN.mk ?_
    obtain ⟨g1, g2, g3⟩ := hbox.put4 e9 (show w1.heap.size ≤ bo from hbo.1) (.int .i64 k) (.slice (some ⟨gs, 0, none⟩) ax ax) (.slice none 0 0) (.slice none 0 0)
    have hr5 := hr4.kept (g3 gs hne)
    have hgl := hr5.lt
    have hbl := g2.lt
    have hM0 := MkB.fresh (X := fun x => x = bo ∨ x = gs) g1 (show w1.heap.size ≤ bo from hbo.1) g2 (.inl rfl) (fun x hx => by rcases hx with rfl | rfl <;> assumption)
    revert hr5 hM0
    clear g1 g2 g3 hgl hbl t0 t1 t2 t3 f0 f1 f2 f3 hr4 hbox e9 hE
    generalize ((((w9.setCell ⟨bo, 0, none⟩ (.int .i64 k)).setCell ⟨bo, 1, none⟩ (.slice (some ⟨gs, 0, none⟩) ax ax)).setCell ⟨bo, 2, none⟩ (.slice none 0 0)).setCell ⟨bo, 3, none⟩ (.slice none 0 0)) = w2
    intro hr5 hM0
    have HR5 := Lib.hid hr5
    have HM0 := Lib.hid hM0
    have hb1 := hbo.1
    have hb1' : w1.heap.size ≤ bo := hb1
    clear hr5 hM0 hbo hb1 u w9 d0 d1 d2
    go_wp2_with fail
    go_loopw [8] (fun jv wr => ∃ j : Nat, j ≤ ax ∧ jv = .int .i64 j ∧ RowI wr gs (fillD l s ax j) ∧ MkB w1 wr (fun x => x = bo ∨ x = gs) bo k (.slice (some ⟨gs, 0, none⟩) ax ax) (.slice none 0 0) (.slice none 0 0) [] []) (fun jv _ => ax - (intOf jv).toNat)
    case atStart => exact ⟨0, Nat.zero_le _, rfl, by rw [fillD_zero]; exact HR5.out, HM0.out⟩
    case round =>
      obtain ⟨j, hj, rfl, hRow, hM⟩ := hrel
      clear HR5 HM0
      by_cases hlt : j < ax
      · have hfl := fillD_length l s ax j hj
        have hc := hRow.cell (j := j) (by rw [hfl]; exact hlt)
        have hfr := hRow.free j
        obtain ⟨ob0, ob1, ob2, ob3⟩ := hM.box.cell
        have hRow1 := hRow.set j 65536
        have hM1 := hM.other (.inr rfl) hne (by omega) (grown_setCell wr gs j (.int .i64 65536))
        generalize (fillD l s ax j).getD j 0 = old at *
        have HFL := Lib.hid hfl
        clear hfl hRow hM
        go_wp2_with fail
        generalize wr.setCell ⟨gs, j, none⟩ (.int .i64 65536) = wk at hRow1 hM1 ⊢
        have HRow1 := Lib.hid hRow1
        have HM1 := Lib.hid hM1
        clear hRow1 hM1 hc hfr ob0 ob1 ob2 ob3
        go_loopw [9] (fun i wq => ∃ (q : Nat) (acc : Int), q ≤ l.length ∧ i = .int .i64 q ∧ 0 ≤ acc ∧ acc ≤ 65536 ∧ RowI wq gs ((fillD l s ax j).set j acc) ∧ MkB w1 wq (fun x => x = bo ∨ x = gs) bo k (.slice (some ⟨gs, 0, none⟩) ax ax) (.slice none 0 0) (.slice none 0 0) [] [] ∧ Hid (rdimAt (j : Int) (l.drop q) (s.drop q) acc = rdimAt (j : Int) l s 65536)) (fun i _ => l.length - (intOf i).toNat)
        case atStart => exact ⟨0, 65536, Nat.zero_le _, rfl, by omega, by omega, HRow1.out, HM1.out, rfl⟩
        case round =>
          obtain ⟨q, acc, hq, rfl, hc0, hc1, hRow, hM, HG⟩ := hrel
          clear HRow1 HM1
          by_cases hlq : q < l.length
          · have hqs : q < s.length := by rw [← HLEN.out]; exact hlq
            obtain ⟨b1, off1, rfl, al, _, _⟩ := (HL1.out.ext hM.ext).get hlq
            obtain ⟨b2, off2, rfl, as_, _, _⟩ := (I1.out.ext (hE0.trans hM.ext)).get hqs
            have HD1 := Lib.hid (drop_getD hlq)
            have HD2 := Lib.hid (drop_getD hqs)
            have hsb := HNB.out (s.getD q 0) (by simp [List.getD, hqs])
            generalize l.getD q 0 = a at *
            generalize s.getD q 0 = f at *
            obtain ⟨yb0, yb1, yb2, yb3⟩ := (HB1.out.ext hM.ext).cell
            obtain ⟨ob0, ob1, ob2, ob3⟩ := hM.box.cell
            have hcl := hRow.cell (j := j) (by rw [List.length_set, HFL.out]; exact hlt)
            rw [getD_set (by rw [HFL.out]; exact hlt), if_pos rfl] at hcl
            have hfr := hRow.free j
            by_cases haj : a = (j : Int)
            · have HG' : Hid (rdimAt (j : Int) (l.drop (q + 1)) (s.drop (q + 1)) (min acc f) = rdimAt (j : Int) l s 65536) := by
                have := HG.out
                rw [HD1.out, HD2.out, rdimAt, if_pos haj] at this
                exact this
              have hRow1 := (hRow.set j (min acc f)).ext ((Ext.refl _).drew)
              rw [List.set_set] at hRow1
              have hM1 := (hM.other (.inr rfl) hne (by omega) (grown_setCell wr gs j (.int .i64 (min acc f)))).next ((Ext.refl _).drew)
              have hab : ((a : Int) == (j : Int)) = true := by simpa using haj
              have hmn : (if f < acc then f else acc) = min acc f := by rw [min_spelt, Int.min_comm]
              have HMN := Lib.hid hmn
              clear HG HD1 HD2 hRow hM haj hmn
              go_wp2_with fail
              go_still_tail 14, (by kernel_rfl)
              change wpList _ _ _ _ _ wr.drew
              rw [HMN.out]
              go_wp2_with fail
              generalize (wr.setCell ⟨gs, j, none⟩ (.int .i64 (min acc f))).drew = w6 at hRow1 hM1 ⊢
              clear al as_ yb0 yb1 yb2 yb3 ob0 ob1 ob2 ob3 hcl hfr
              go_roundw
              case rel => exact ⟨q + 1, min acc f, by omega, by go_num, by omega, by omega, hRow1, hM1, HG'.out⟩
              case measure => simp [intOf]; omega
            · have HG' : Hid (rdimAt (j : Int) (l.drop (q + 1)) (s.drop (q + 1)) acc = rdimAt (j : Int) l s 65536) := by
                have := HG.out
                rw [HD1.out, HD2.out, rdimAt, if_neg haj] at this
                exact this
              have hab : ((a : Int) == (j : Int)) = false := by simpa using haj
              clear HG HD1 HD2 haj
              go_wp2_with fail
              go_roundw
              case rel => exact ⟨q + 1, acc, by omega, by go_num, by omega, by omega, hRow, hM, HG'.out⟩
              case measure => simp [intOf]; omega
          · have hg := HG.out
            rw [List.drop_of_length_le (by omega), rdimAt_nil] at hg
            have hRow2 : RowI wr gs (fillD l s ax (j + 1)) := by
              rw [← fillD_set l s ax j hlt, ← show _ = rdimAt (j : Int) l s 65536 from hg]
              exact hRow
            clear HG hg hRow
            go_wp2_with fail
            go_roundw
            case rel => exact ⟨j + 1, by omega, by go_num, hRow2, hM⟩
            case measure => simp [intOf]; omega
      · obtain rfl : j = ax := by omega
        rw [fillD_all] at hRow
        have hshl := rdims_length l s j
        have HUW := Lib.hid (fun t (ht : Within (rdims l s j) t) => umap_within (t := t) (ax := j) HLEN.out (fun a ha => ⟨(HRG.out a ha).1, HAL.out a ha⟩) HNN.out ht)
        have hshw : ∀ x ∈ rdims l s j, -9223372036854775808 ≤ x ∧ x ≤ 9223372036854775807 := by
          intro x hx
          obtain ⟨i, hi, e⟩ := List.mem_iff_getElem.1 hx
          have h1 := rdimAt_bd (i : Int) l s 65536 (by omega) HNN.out
          have h2 := rdims_getD l s j i (by rw [← hshl]; exact hi)
          simp only [List.getD, hi, List.getElem?_eq_getElem, Option.getD_some] at h2
          rw [← e, h2]; omega
        generalize rdims l s j = sh at *
        obtain rfl : j = sh.length := hshl.symm
        have HSHW := Lib.hid hshw
        have hRI := hRow.ints hshw
        have HSI := Lib.hid hRI
        have hslo := shapeSize_lo sh
        have hshi := shapeSize_hi sh
        generalize hszv : shapeSize sh = sz at *
        have HSZV := Lib.hid hszv
        have HRow := Lib.hid hRow
        have HM := Lib.hid hM
        obtain ⟨ob0, ob1, ob2, ob3⟩ := hM.box.cell
        clear hszv hshl hshw hRow hM hRI
        go_wp2_with fail
        refine (r2size_any _ _ sh.length sh _ HSI.out (by unfold lenMax; omega)).mono ?_
        rintro e w5 ⟨rfl, rfl⟩
        rw [HSZV.out]
        go_wp2_with fail
        clear ob0 ob1 ob2 ob3
        go_loopw [11] (fun kv wr => ∃ (m : Nat) (n' : List Int) (l' : List Arr) (v2 v3 : Value), (m : Int) ≤ max sz 0 ∧ kv = .int .i64 m ∧ RowI wr gs sh ∧ MkB w1 wr (fun x => x = bo ∨ x = gs) bo k (.slice (some ⟨gs, 0, none⟩) sh.length sh.length) v2 v3 n' l' ∧
          Hid (n' = transN l s sh k n m) ∧ Hid (l' = transI l s sh k it m)) (fun kv _ => sz.toNat - (intOf kv).toNat)
        case atStart => exact ⟨0, [], [], _, _, by omega, rfl, HRow.out, HM.out, by simp [transN, Hid], by simp [transI, Hid]⟩
        case round =>
          obtain ⟨m, n', l', v2, v3, hm, rfl, hRow, hM, HN', HI'⟩ := hrel
          clear HRow HM HSI
          by_cases hms : (m : Int) < sz
          · have hshr : shapeRight sh = true := by
              have := HSZV.out
              unfold shapeSize at this
              split at this
              · assumption
              · omega
            have HSR := Lib.hid hshr
            clear hshr
            have hRI := hRow.ints HSHW.out
            obtain ⟨ob0, ob1, ob2, ob3⟩ := hM.box.cell
            go_wp2_with fail
            refine (r2index_any _ _ sh.length sh m _ hRI (by unfold lenMax; omega) HSR.out (by omega) (by rw [HSZV.out]; exact hms)).mono ?_
            rintro e w4 ⟨pt, ct, rfl, hOt, hE4⟩
            have hWt : Within sh (idxOf sh m) := idxOf_within sh m (shapeRight_go HSR.out).1 (by omega) (by
              rw [prodA_volOf]
              have := HSZV.out
              unfold shapeSize at this
              rw [if_pos HSR.out] at this
              rw [this]; exact hms)
            have HUM := Lib.hid (HUW.out _ hWt)
            have HOFF : Hid ((offV s (umap l (idxOf sh m))).1 = offAt l s sh m) := rfl
            generalize idxOf sh m = t at *
            have htl := hWt.1
            obtain ⟨p', c', hpt, hkt, hit⟩ := hOt.ints
            simp only [Value.slice.injEq] at hpt
            obtain ⟨rfl, hjunk, rfl⟩ := hpt
            clear hjunk
            rw [htl] at hkt
            have HIT := Lib.hid hit
            have HWT := Lib.hid hWt
            have HTL := Lib.hid htl
            obtain ⟨kt1, kt2, kt3⟩ := hkt
            have hmk2 := run_make_ints l.length (by omega)
            have hM4 := hM.next hE4
            have hRow4 := hRow.ext hE4
            have HM4 := Lib.hid hM4
            have HRow4 := Lib.hid hRow4
            clear hOt hit hWt htl ob0 ob1 ob2 ob3 hM hRow hRI hM4 hRow4
            go_wp2_with fail
            have hU := RowI.made (w := w4) l.length
            have hE5 : Ext w4 (w4.alloc (.cells (madeCells #[.int .i64 0] l.length) 3)) := (Ext.refl _).alloc _
            generalize hgu : w4.heap.size = gu at *
            have HGU := Lib.hid hgu
            clear hgu hmk2
            generalize w4.alloc (.cells (madeCells #[.int .i64 0] l.length) 3) = w5 at hU hE5 ⊢
            have HU := Lib.hid hU
            clear hU
            go_loopw [15] (fun i wq => ∃ (q : Nat), q ≤ l.length ∧ i = .int .i64 q ∧ Ext w4 wq ∧ RowI wq gu (fillU l t q)) (fun i _ => l.length - (intOf i).toNat)
            case atStart => exact ⟨0, Nat.zero_le _, rfl, hE5, by rw [fillU_zero]; exact HU.out⟩
            case round =>
              obtain ⟨q, hq, rfl, hE6, hRU⟩ := hrel
              clear HU hE5
              by_cases hlq : q < l.length
              · obtain ⟨b1, off1, rfl, al, _, _⟩ := (HL1.out.ext (HM4.out.ext.trans hE6)).get hlq
                have hra := HRG.out (l.getD q 0) (by simp [List.getD, hlq])
                have hrb := HAL.out (l.getD q 0) (by simp [List.getD, hlq])
                obtain ⟨b2, off2, rfl, at_, at1, at2⟩ := (HIT.out.ext hE6).get (i := (l.getD q 0).toNat) (by have := HTL.out; omega)
                have hset := fillU_set l t q hlq
                have hful := fillU_length l t q (by omega)
                have hcu := hRU.cell (j := q) (by rw [hful]; exact hlq)
                have hfu := hRU.free q
                have hRU1 := hRU.set q (t.getD (l.getD q 0).toNat 0)
                rw [hset] at hRU1
                have hE7 : Ext w4 (wr.setCell ⟨gu, q, none⟩ (.int .i64 (t.getD (l.getD q 0).toNat 0))) := hE6.setCell (p := ⟨gu, q, none⟩) (by rw [HGU.out]; exact Nat.le_refl _) _
                generalize (fillU l t q).getD q 0 = old at *
                generalize hta : t.getD (l.getD q 0).toNat 0 = ta at *
                have HTA := Lib.hid hta
                generalize l.getD q 0 = a at *
                have hatl : a.toNat < sh.length := by omega
                have hatl2 : a < (sh.length : Int) := by omega
                clear hset hful hRU hta hE6
                go_wp2_with fail
                generalize wr.setCell ⟨gu, q, none⟩ (.int .i64 ta) = w6 at hRU1 hE7 ⊢
                clear al at_ hcu hfu
                go_roundw
                case rel => exact ⟨q + 1, by omega, by go_num, hE7, hRU1⟩
                case measure => simp [intOf]; omega
              · obtain rfl : q = l.length := by omega
                rw [fillU_all] at hRU
                have hul := umap_length l t
                have hof := offV_within (by simp [shapeRight, h8, HR.out]) HUM.out
                have hUI := hRU.ints (fun x hx => by
                  obtain ⟨i, hi, e⟩ := List.mem_iff_getElem.1 hx
                  have h1 := HUM.out.2 i (by rw [← HUM.out.1]; exact hi)
                  simp only [List.getD, hi, List.getElem?_eq_getElem, Option.getD_some] at h1
                  have h2 := HNB.out (s.getD i 0) (by simp [List.getD, show i < s.length by rw [← HUM.out.1]; exact hi])
                  simp only [List.getD] at h2
                  rw [← e]; omega)
                generalize umap l t = uu at *
                have hE8 := HM4.out.ext.trans hE6
                obtain ⟨yb0, yb1, yb2, yb3⟩ := (HB1.out.ext hE8).cell
                have HUL := Lib.hid hul
                go_wp2_with fail
                have HOC := r2offset_any _ _ q1 (some ⟨gu, 0, none⟩) m1 l.length s uu wr (I1.out.ext (hE0.trans hE8)) hUI (by unfold lenMax; omega) (by unfold lenMax; rw [HUL.out]; omega)
                rw [HUL.out] at HOC
                obtain ⟨hf1, hf2, hf3⟩ := hof
                rw [hf1, HOFF.out] at HOC
                rw [HOFF.out] at hf2 hf3
                refine HOC.mono ?_
                rintro e w6 ⟨rfl, hE9⟩
                have hE10 := hE6.trans hE9
                have hM2 := HM4.out.next hE10
                have hRow6 := HRow4.out.ext hE10
                have hpv : prodA 1 s = shapeSize s := by rw [prodA_volOf, shapeSize, if_pos (by simp [shapeRight, h8, HR.out])]
                rw [hpv] at hf3
                have HNS := Lib.hid (transN_succ l s sh k n m)
                have HIS := Lib.hid (transI_succ l s sh k it m)
                have hnl : n'.length ≤ m := by rw [HN'.out]; exact transN_len _ _ _ _ _ _
                have hll : l'.length ≤ m := by rw [HI'.out]; exact transI_len _ _ _ _ _ _
                generalize offAt l s sh m = fr at *
                clear yb0 yb1 yb2 yb3 hUI HOC hpv hE9 HOFF hul hRU HM4 HRow4 hE6 hE8 HUL
                obtain ⟨yb0, yb1, yb2, yb3⟩ := (HB1.out.ext hM2.ext).cell
                by_cases hk3 : (k == 3) = true
                · have hk : k = 3 := by simpa using hk3
                  have hfi : fr < it.length := by rw [HI.out hk]; exact hf3
                  have HN2 : Hid (n' = transN l s sh k n (m + 1)) := by
                    show _ = _
                    rw [HNS.out, if_pos hk, HN'.out, transN, if_pos hk]
                  have HI2 : Hid (l' ++ [it.getD fr.toNat default] = transI l s sh k it (m + 1)) := by
                    show _ = _
                    rw [HIS.out, if_pos hk, HI'.out]
                  clear HNS HIS HN' HI' hk
                  go_wp2_with fail
                  clear yb0 yb1 yb2 yb3
                  obtain ⟨bi, off, x0, x1, x2, x3, hq3, _, g0, g1, g2, g3, hx⟩ := ItemsAt.get it _ 0 fr.toNat (I3.out.ext hE0) (by omega)
                  rw [Nat.zero_add] at g0 g1 g2 g3
                  subst hq3
                  have hxe : it.getD fr.toNat default = it[fr.toNat]'(by omega) := by rw [List.getD, List.getElem?_eq_getElem (by omega)]; rfl
                  rw [← hxe] at hx
                  clear hxe
                  generalize it.getD fr.toNat default = x at *
                  obtain ⟨y0, pp1, l1, u1', pp2, l2, u2', pp3, l3, u3', rfl, rfl, rfl, rfl⟩ := hx.form
                  obtain ⟨_, _, _, yc3⟩ := HB1.out.cell
                  have hS0 : Ext w1 w6.drew ∧ w6.drew.cell? ⟨bo, 3, none⟩ = some v3 := ⟨hM2.ext.drew, hM2.box.cell.2.2.2⟩
                  refine wp_region_g [0, 1, 2, 3, 4, 5, 6] [7, 8, 9, 10, 11] (fun w' => Ext w1 w' ∧ w'.cell? ⟨bo, 3, none⟩ = some v3) (by kernel_rfl) (by kernel_rfl) hS0 ?_
                  iterate 7
                    refine wpHead_cons (v := ?_) rfl (by rfl) (fun w' hS => ?_) ?_
                    rotate_left
                    · obtain ⟨hS1, hS2⟩ := hS
                      have e0 := hS1.cell yc3
                      have e1 := hS1.cell g0
                      have e2 := hS1.cell g1
                      have e3 := hS1.cell g2
                      have e4 := hS1.cell g3
                      go_simp
                      try with_reducible rfl
                    try simp only [Act.put, List.setIfInBounds_toArray, List.set]
                  unfold wpHead
                  refine wpTail_cons rfl (fun K hK => ?_)
                  clear yc3 g0 g1 g2 g3
                  go_wp2_with fail
                  refine (rclone_any (SizeOf.sizeOf x + 1) H x _ _ _ _ _ (by omega) (hx.ext hS0.1)).mono ?_
                  rintro e w3 ⟨y0', y1', y2', y3', rfl, hy', hE3⟩
                  have hEr : Ext w6 w3 := Ext.trans ((Ext.refl _).drew) hE3
                  have hM3 := hM2.next hEr
                  have hS3 : Ext w1 w3 ∧ w3.cell? ⟨bo, 3, none⟩ = some v3 := ⟨hM3.ext, hM3.box.cell.2.2.2⟩
                  go_wp2_with fail
                  refine hK _ _ hS3 ?_
                  try simp only [Act.put, List.setIfInBounds_toArray, List.set]
                  refine wpTail_cons rfl (fun K hK => ?_)
                  have hY := ArrAt.mono (G := Apart w1.heap.size (fun x => (fun x => x = bo ∨ x = gs) x ∨ v2.ownBlock = some x) v3) (w' := w3) (fun q hq _ => ⟨hM2.apart q hq, rfl⟩) _ _ _ _ _ hy'
                  obtain ⟨yk, pq1, mm1, n1, pq2, mm2, n2, pq3, mm3, n3, rfl, rfl, rfl, rfl⟩ := hY.form
                  clear hx hy' hE3 hM2 hS0
                  go_wp2_with fail
                  have hEn : Ext w6 (w3.alloc (.cells #[.int .i64 yk, .slice pq1 mm1 n1, .slice pq2 mm2 n2, .slice pq3 mm3 n3] 26)) := hEr.alloc _
                  have hM4 := hM3.next ((Ext.refl _).alloc (.cells #[.int .i64 yk, .slice pq1 mm1 n1, .slice pq2 mm2 n2, .slice pq3 mm3 n3] 26))
                  have hbx4 := box_new w3 (.int .i64 yk) (.slice pq1 mm1 n1) (.slice pq2 mm2 n2) (.slice pq3 mm3 n3)
                  have hY4 := hY.ext ((Ext.refl _).alloc (.cells #[.int .i64 yk, .slice pq1 mm1 n1, .slice pq2 mm2 n2, .slice pq3 mm3 n3] 26))
                  generalize w3.alloc (.cells #[.int .i64 yk, .slice pq1 mm1 n1, .slice pq2 mm2 n2, .slice pq3 mm3 n3] 26) = w4' at *
                  refine hK _ _ ⟨hM4.ext, hM4.box.cell.2.2.2⟩ ?_
                  try simp only [Act.put, List.setIfInBounds_toArray, List.set]
                  refine wpTail_cons rfl (fun K hK => ?_)
                  refine wpList_append_arr rfl _ _ rfl w1.heap.size _ v3 l'.length l' x _ _ _ _ rfl hM4.oi _ _ rfl hbx4 hM4.xl3 hY4 (by omega) hM4.ext.lt ?_
                  intro g cap w8 hon8 hgrow hat8 _ _
                  obtain ⟨q1, q2, q3⟩ := hM4.grownI hgrow
                  obtain ⟨_, _, _, t3⟩ := q2.cell
                  have tf := q2.free 3
                  obtain ⟨hM8, hfar⟩ := hM4.storedI (l' := l' ++ [x]) hgrow (by simp) hon8 hat8
                  refine hK _ _ ⟨q1, t3⟩ ?_
                  try simp only [Act.put, List.setIfInBounds_toArray, List.set]
                  refine wpTail_free2 rfl rfl (by kernel_rfl) ?_
                  clear hM3 hM4 hbx4 hY4 hY hon8 hgrow hat8 q1 q2 q3 hS3 hEr
                  go_wp2_with fail
                  refine OnlyN.mk ?_
                  generalize hn8 : l' ++ [x] = l8 at *
                  have hl8' : l8.length = l'.length + 1 := by rw [← hn8]; simp
                  clear hn8
                  have hRow8 := (hRow6.ext hEn).kept (hfar gs (.inr rfl) hne)
                  go_wp2_with fail
                  go_roundw
                  case rel => exact ⟨m + 1, n', l8, _, _, by omega, by go_num, hRow8, hM8, HN2.out, HI2.out⟩
                  case measure => simp [intOf]; omega
                · have hk : k ≠ 3 := by simpa using hk3
                  have hk3' := Bool.eq_false_iff.2 hk3
                  have hfi : fr < n.length := by rw [HN.out hk]; exact hf3
                  have HI2 : Hid (l' = transI l s sh k it (m + 1)) := by
                    show _ = _
                    rw [HIS.out, if_neg hk, HI'.out, transI, if_neg hk]
                  have HN2 : Hid (n' ++ [n.getD fr.toNat 0] = transN l s sh k n (m + 1)) := by
                    show _ = _
                    rw [HNS.out, if_neg hk, HN'.out]
                  clear HNS HIS HN' HI' hk hk3
                  go_wp2_with fail
                  clear yb0 yb1 yb2 yb3
                  obtain ⟨bv, ov, rfl, av, av1, av2⟩ := (I2.out.ext hE0).get (i := fr.toNat) (by omega)
                  obtain ⟨_, _, yc2, _⟩ := HB1.out.cell
                  generalize n.getD fr.toNat 0 = xv at *
                  have hS0 : Ext w1 w6.drew ∧ w6.drew.cell? ⟨bo, 2, none⟩ = some v2 := ⟨hM2.ext.drew, hM2.box.cell.2.2.1⟩
                  refine wp_region_g [0, 1, 2, 3, 4, 5, 6] [7, 8, 9, 10] (fun w' => Ext w1 w' ∧ w'.cell? ⟨bo, 2, none⟩ = some v2) (by kernel_rfl) (by kernel_rfl) hS0 ?_
                  iterate 7
                    refine wpHead_cons (v := ?_) rfl (by rfl) (fun w' hS => ?_) ?_
                    rotate_left
                    · obtain ⟨hS1, hS2⟩ := hS
                      have e0 := hS1.cell yc2
                      have e1 := hS1.cell av
                      go_simp
                      try with_reducible rfl
                    try simp only [Act.put, List.setIfInBounds_toArray, List.set]
                  unfold wpHead
                  refine wpTail_cons rfl (fun K hK => ?_)
                  clear yc2 av
                  go_wp2_with fail
                  have hEn : Ext w6 (w6.alloc (.cells #[.int .i64 xv] 3)).drew := ((Ext.refl _).alloc _).drew
                  have hnc : (w6.alloc (.cells #[.int .i64 xv] 3)).drew.cell? ⟨w6.heap.size, 0, none⟩ = some (.int .i64 xv) := by simp
                  generalize (w6.alloc (.cells #[.int .i64 xv] 3)).drew = w7 at hEn hnc ⊢
                  have hM7 := hM2.next hEn
                  refine hK _ _ ⟨hM7.ext, hM7.box.cell.2.2.1⟩ ?_
                  try simp only [Act.put, List.setIfInBounds_toArray, List.set]
                  refine wpTail_cons rfl (fun K hK => ?_)
                  refine wpList_append_int rfl _ _ rfl w1.heap.size _ v2 n'.length n' xv rfl hM7.on ⟨w6.heap.size, 0, none⟩ 1 rfl hnc hM7.xl2 ⟨av1, av2⟩ (by omega) hM7.ext.lt ?_
                  intro g cap w8 hon8 hgrow hat8 _ _
                  obtain ⟨q1, q2, q3⟩ := hM7.grownN hgrow
                  obtain ⟨_, _, t2, _⟩ := q2.cell
                  have tf := q2.free 2
                  obtain ⟨hM8, hfar⟩ := hM7.storedN (n' := n' ++ [xv]) hgrow (by simp) hon8 hat8
                  refine hK _ _ ⟨q1, t2⟩ ?_
                  try simp only [Act.put, List.setIfInBounds_toArray, List.set]
                  refine wpTail_free2 rfl rfl (by kernel_rfl) ?_
                  clear hM7 hon8 hgrow hat8 q1 q2 q3 hS0 hM2 hnc
                  go_wp2_with fail
                  refine OnlyN.mk ?_
                  generalize hn8 : n' ++ [xv] = n8 at *
                  have hn8' : n8.length = n'.length + 1 := by rw [← hn8]; simp
                  clear hn8
                  have hRow8 := (hRow6.ext hEn).kept (hfar gs (.inr rfl) hne)
                  go_wp2_with fail
                  go_roundw
                  case rel => exact ⟨m + 1, n8, l', _, _, by omega, by go_num, hRow8, hM8, HN2.out, HI2.out⟩
                  case measure => simp [intOf]; omega
          · have hN9 : transN l s sh k n sz.toNat = n' := by rw [HN'.out]; congr 1; omega
            have hI9 : transI l s sh k it sz.toNat = l' := by rw [HI'.out]; congr 1; omega
            have HRS := HRES.out
            rw [hN9, hI9] at HRS
            have hll : l'.length ≤ 65536 := by
              have := transI_len l s sh k it m
              rw [HI'.out]; omega
            have HRS := Lib.hid HRS
            clear HN' HI' hN9 hI9
            obtain ⟨pa, ca, hv2, _, _⟩ := hM.on.ints
            subst hv2
            obtain ⟨pb, cb, hv3, _, _⟩ := hM.oi.items (by omega)
            subst hv3
            have hbx2 := HB2.out.ext hM.ext
            obtain ⟨s0, s1, s2, s3⟩ := hM.box.cell
            obtain ⟨x0, x1, x2, x3⟩ := hbx2.cell
            have y0 := hbx2.free 0
            have y1 := hbx2.free 1
            have y2 := hbx2.free 2
            have y3 := hbx2.free 3
            have hA := MkB.arr (G := fun b => b = gs) hM hk ⟨_, _, rfl, ⟨Nat.le_refl _, by omega, by omega⟩, hRow.ints HSHW.out⟩ (by omega)
            have hgs1 : w1.heap.size ≤ gs := hb4
            have hEw2 := hE0.trans hM.ext
            go_wp2_with fail
            obtain ⟨g1, g2, g3⟩ := hbx2.put4 hEw2 (by omega) (.int .i64 k) (.slice (some ⟨gs, 0, none⟩) sh.length sh.length) (.slice pa n'.length ca) (.slice pb l'.length cb)
            revert g1 g2 g3
            generalize ((((wr.setCell ⟨w.heap.size + 1, 0, none⟩ (.int .i64 k)).setCell ⟨w.heap.size + 1, 1, none⟩ (.slice (some ⟨gs, 0, none⟩) sh.length sh.length)).setCell ⟨w.heap.size + 1, 2, none⟩ (.slice pa n'.length ca)).setCell ⟨w.heap.size + 1, 3, none⟩ (.slice pb l'.length cb)) = w9
            intro g1 g2 g3
            obtain ⟨z0, z1, z2, z3⟩ := g2.cell
            have hA9 := ArrAt.mono (G := fun b => w.heap.size ≤ b) (w' := w9) (fun b hb _ => ⟨by rcases hb with hb | hb <;> omega, g3 b (by rcases hb with hb | hb <;> omega)⟩) _ _ _ _ _ hA
            refine bodyPost_ret (v := .agg #[(.int .i64 k), (.slice (some ⟨gs, 0, none⟩) sh.length sh.length), (.slice pa n'.length ca), (.slice pb l'.length cb)]) ?_ rfl ⟨_, _, _, _, rfl, by rw [← HRS.out]; exact hA9, g1⟩
            simp [results, Try.results65, go_sem, z0, z1, z2, z3]
end Go.Proofs.Ytcmnlnamgnbemaa
