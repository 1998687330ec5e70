/-
  THE WALK of arraylangref27.Encode. (Printed by gen_renc.py.)
-/
import Derived.Test.YtmpjnjhiklaofaaEnc
import Derived.Test.YtmpjnjhiklaofaaChain2
namespace Go.Proofs.Ytmpjnjhiklaofaa
set_option linter.unusedSimpArgs false
set_option linter.unusedVariables false
open Go.RowKit


set_option maxRecDepth 1000000 in
set_option maxHeartbeats 16000000 in
theorem rencode_any (F G : Nat → Prop) (x y : Arr) (c0 c1 c2 c3 d0 d1 d2 d3 : Value) (w : World) (hx : ArrAt F w x c0 c1 c2 c3) (hy : ArrAt G w y d0 d1 d2 d3) :
    Calls Try.prog 18 #[.agg #[c0, c1, c2, c3], .agg #[d0, d1, d2, d3]] w fun e w' =>
      ∃ e0 e1 e2 e3, e = .returned (.tuple #[.agg #[e0, e1, e2, e3], .int .i64 (encV x y).2]) ∧ ArrAt (fun b => w.heap.size ≤ b) w' (encV x y).1 e0 e1 e2 e3 ∧ Ext w w' := by
  obtain ⟨kx, sx, nx, ix⟩ := x
  obtain ⟨ky, sy, ny, iy⟩ := y
  have hx' := hx
  have hy' := hy
  unfold ArrAt at hx' hy'
  obtain ⟨rfl, hkx, ⟨q1, m1, rfl, ⟨o1, o1', o1''⟩, i1⟩, ⟨q2, m2, rfl, ⟨o2, o2', o2''⟩, i2⟩, ⟨q3, m3, rfl, ⟨o3, o3', o3''⟩, i3⟩⟩ := hx'
  obtain ⟨rfl, hky, ⟨r1, n1, rfl, ⟨p1, p1', p1''⟩, j1⟩, ⟨r2, n2, rfl, ⟨p2, p2', p2''⟩, j2⟩, ⟨r3, n3, rfl, ⟨p3, p3', p3''⟩, j3⟩⟩ := hy'
  have HX := Lib.hid hx
  have HY := Lib.hid hy
  have HNX := Lib.hid i2
  have HNY := Lib.hid j2
  have HSX := Lib.hid i1
  have HSY := Lib.hid j1
  clear hx hy i1 i2 i3 j1 j2 j3
  generalize hres : encV (.mk kx sx nx ix) (.mk ky sy ny iy) = res
  unfold encV at hres
  have HR := Lib.hid hres
  clear hres
  go_enter Try.func18, Try.ntmps18
  go_wp2_with fail
  have hE0 : Ext w (((w.alloc (.cells #[.int .i64 kx, .slice q1 sx.length m1, .slice q2 nx.length m2, .slice q3 ix.length m3] 26)).alloc (.cells #[.int .i64 ky, .slice r1 sy.length n1, .slice r2 ny.length n2, .slice r3 iy.length n3] 26)).alloc (.cells #[.int .i64 0, .slice none 0 0, .slice none 0 0, .slice none 0 0] 26)) := (((Ext.refl _).alloc _).alloc _).alloc _
  have hB1 := ((box_new w (.int .i64 kx) (.slice q1 sx.length m1) (.slice q2 nx.length m2) (.slice q3 ix.length m3)).ext ((Ext.refl _).alloc (.cells #[.int .i64 ky, .slice r1 sy.length n1, .slice r2 ny.length n2, .slice r3 iy.length n3] 26))).ext ((Ext.refl _).alloc (.cells #[.int .i64 0, .slice none 0 0, .slice none 0 0, .slice none 0 0] 26))
  have hB2 := (box_new (w.alloc (.cells #[.int .i64 kx, .slice q1 sx.length m1, .slice q2 nx.length m2, .slice q3 ix.length m3] 26)) (.int .i64 ky) (.slice r1 sy.length n1) (.slice r2 ny.length n2) (.slice r3 iy.length n3)).ext ((Ext.refl _).alloc (.cells #[.int .i64 0, .slice none 0 0, .slice none 0 0, .slice none 0 0] 26))
  have hB3 := box_new ((w.alloc (.cells #[.int .i64 kx, .slice q1 sx.length m1, .slice q2 nx.length m2, .slice q3 ix.length m3] 26)).alloc (.cells #[.int .i64 ky, .slice r1 sy.length n1, .slice r2 ny.length n2, .slice r3 iy.length n3] 26)) (.int .i64 0) (.slice none 0 0) (.slice none 0 0) (.slice none 0 0)
  rw [World.size_alloc] at hB2
  rw [World.size_alloc, World.size_alloc] at hB3
  generalize ((w.alloc (.cells #[.int .i64 kx, .slice q1 sx.length m1, .slice q2 nx.length m2, .slice q3 ix.length m3] 26)).alloc (.cells #[.int .i64 ky, .slice r1 sy.length n1, .slice r2 ny.length n2, .slice r3 iy.length n3] 26)).alloc (.cells #[.int .i64 0, .slice none 0 0, .slice none 0 0, .slice none 0 0] 26) = w1 at hE0 hB1 hB2 hB3 ⊢
  refine (radCommon_any F G _ _ _ _ _ _ _ _ _ _ w1 (HX.out.ext hE0) (HY.out.ext hE0)).mono ?_
  rintro e w2 ⟨rfl, hE1⟩
  replace hB1 := hB1.ext hE1
  replace hB2 := hB2.ext hE1
  replace hB3 := hB3.ext hE1
  have hE2 := hE0.trans hE1
  clear hE0 hE1
  have hlt2 := hB3.lt
  obtain ⟨s0, s1, s2, s3⟩ := hB1.cell
  obtain ⟨t0, t1, t2, t3⟩ := hB2.cell
  obtain ⟨x0, x1, x2, x3⟩ := hB3.cell
  have y0 := hB3.free 0
  have y1 := hB3.free 1
  have y2 := hB3.free 2
  have y3 := hB3.free 3
  by_cases hw : radErr (.mk kx sx nx ix) (.mk ky sy ny iy) = 0
  rotate_left
  · have hR1 := HR.out
    rw [if_pos hw] at hR1
    subst hR1
    generalize hrv : radErr (.mk kx sx nx ix) (.mk ky sy ny iy) = rv at *
    have HRV := Lib.hid hrv
    clear hrv HR
    go_wp2_with fail
    obtain ⟨g1, g2, g3⟩ := hB3.put4 hE2 (by omega) (.int .i64 0) (.slice none 0 0) (.slice none 0 0) (.slice none 0 0)
    revert g1 g2 g3
    generalize ((((w2.setCell ⟨w.heap.size + 1 + 1, 0, none⟩ (.int .i64 0)).setCell ⟨w.heap.size + 1 + 1, 1, none⟩ (.slice none 0 0)).setCell ⟨w.heap.size + 1 + 1, 2, none⟩ (.slice none 0 0)).setCell ⟨w.heap.size + 1 + 1, 3, none⟩ (.slice none 0 0)) = w9
    intro g1 g2 g3
    obtain ⟨z0, z1, z2, z3⟩ := g2.cell
    refine bodyPost_ret (v := .tuple #[.agg #[(.int .i64 0), (.slice none 0 0), (.slice none 0 0), (.slice none 0 0)], .int .i64 rv]) ?_ rfl ⟨_, _, _, _, by rw [HRV.out], Arr.zero_at _ _, g1⟩
    simp [results, Try.results18, go_sem, z0, z1, z2, z3]
  have hR1 := HR.out
  rw [if_neg (by simp [hw])] at hR1
  have HR1 := Lib.hid hR1
  have hparts := rad_parts hw
  rw [hw]
  clear hR1 HR hw
  obtain ⟨hrx, hry, rfl, rfl, hsl⟩ := hparts
  have HRX := Lib.hid hrx
  have HRY := Lib.hid hry
  clear hrx hry
  have hny := (right_parts HRY.out).2.2.2.1
  have hny' := (hny (by omega)).2
  have hhi := shapeSize_hi sy
  have hnl : ny.length ≤ 65536 := by omega
  have HYN := Lib.hid (right_ints HRY.out)
  have hnxl : nx.length ≤ 65536 := by
    have h1 := (right_parts HRX.out).2.2.2.1
    have h2 := (h1 (by omega)).2
    have h3 := shapeSize_hi sx
    omega
  have h8 := (right_parts HRY.out).2.1
  clear hny hny' hhi
  go_wp2_with fail
  go_loop [7] (fun iv => ∃ k : Nat, k ≤ nx.length ∧ iv = .int .i64 k ∧ Hid ((nx.take k).any isNeg = false)) (fun iv => nx.length - (intOf iv).toNat)
  case atStart => exact ⟨0, Nat.zero_le _, rfl, Lib.hid (by simp)⟩
  case round =>
  obtain ⟨k, hk, rfl, HT⟩ := hrel
  by_cases hlt : k < nx.length
  · obtain ⟨b2, off2, rfl, a2, _, _⟩ := (HNX.out.ext hE2).get hlt
    have hst : (nx.take (k + 1)).any isNeg = isNeg (nx.getD k 0) := by
      rw [List.take_add_one, List.any_append, HT.out]; simp [List.getD, hlt]
    have hmem : nx.getD k 0 ∈ nx := by simp [List.getD, hlt]
    generalize nx.getD k 0 = d at *
    have HST := Lib.hid hst
    clear hst
    by_cases hneg : d < 0
    · have hany : nx.any isNeg = true := by
        rw [List.any_eq_true]
        exact ⟨d, hmem, by simp [isNeg, hneg]⟩
      have hR1 := HR1.out
      rw [if_pos hany] at hR1
      subst hR1
      clear hany hmem
      go_wp2_with fail
      obtain ⟨g1, g2, g3⟩ := hB3.put4 hE2 (by omega) (.int .i64 0) (.slice none 0 0) (.slice none 0 0) (.slice none 0 0)
      revert g1 g2 g3
      generalize ((((w2.setCell ⟨w.heap.size + 1 + 1, 0, none⟩ (.int .i64 0)).setCell ⟨w.heap.size + 1 + 1, 1, none⟩ (.slice none 0 0)).setCell ⟨w.heap.size + 1 + 1, 2, none⟩ (.slice none 0 0)).setCell ⟨w.heap.size + 1 + 1, 3, none⟩ (.slice none 0 0)) = w9
      intro g1 g2 g3
      obtain ⟨z0, z1, z2, z3⟩ := g2.cell
      refine bodyPost_ret (v := .tuple #[.agg #[(.int .i64 0), (.slice none 0 0), (.slice none 0 0), (.slice none 0 0)], .int .i64 17]) ?_ rfl ⟨_, _, _, _, rfl, Arr.zero_at _ _, g1⟩
      simp [results, Try.results18, go_sem, z0, z1, z2, z3]
    · have hisn : isNeg d = false := by simp [isNeg]; omega
      have HST2 := Lib.hid (show (nx.take (k + 1)).any isNeg = false by rw [HST.out, hisn])
      clear hisn HST hmem HT
      go_wp2_with fail
      go_round
      case rel => exact ⟨k + 1, by omega, by go_num, HST2⟩
      case measure => simp [intOf]; omega
  have hke : k = nx.length := by omega
  subst hke
  have hng : ¬ nx.any isNeg = true := by have := HT.out; rw [List.take_length] at this; rw [this]; simp
  have hR1 := HR1.out
  rw [if_neg hng] at hR1
  have HR2 := Lib.hid hR1
  have hrad : RadOk nx := fun r hr => ⟨neg_none hng r hr, (right_ints HRX.out r hr).2⟩
  have HRAD := Lib.hid hrad
  clear hR1 HR1 hng hrad HT hk
  go_wp2_with fail
  have HB1 := Lib.hid hB1
  have HB2 := Lib.hid hB2
  have HB3 := Lib.hid hB3
  have HE2 := Lib.hid hE2
  clear hB1 hB2 hB3 hE2 hlt
  obtain ⟨sh, hsh⟩ : ∃ sh, sh = sx ++ sy := ⟨_, rfl⟩
  have hshl : sh.length = sx.length + sy.length := by rw [hsh, List.length_append]
  have HSH := Lib.hid hsh
  have HSHL := Lib.hid hshl
  clear hsh hshl
  clear s0 s1 s2 s3 t0 t1 t2 t3 x0 x1 x2 x3 y0 y1 y2 y3
  refine wp_region_z1 [MProp.row w2.heap.size 0 [], MProp.is (.pointer (some ⟨w.heap.size, 1, none⟩)), MProp.rdi (sx), MProp.chain w2.heap.size (sx), MProp.is (.pointer (some ⟨w.heap.size + 1, 1, none⟩)), MProp.rdi (sy), MProp.chain w2.heap.size (sh), MProp.chainAgg w2.heap.size 1 sh, MProp.boxo w2.heap.size] [0, 1, 2, 4, 5, 8] [3, 6, 7] [32, 33, 34, 36, 37, 8, 35, 38, 39] 9 (by kernel_rfl) (by kernel_rfl) (by kernel_rfl) (by kernel_rfl) rfl ?_ ?_ ?_ ?_
  · exact mem_cons_m (zst_row _ _ _) (mem_cons_m (zst_is _) (mem_cons_m (zst_rdi _) (mem_cons_m (zst_is _) (mem_cons_m (zst_rdi _) (mem_cons_m (zst_boxo _) (mem_nil_m))))))
  · refine mem_cons_m ?_ (mem_cons_m ?_ (mem_cons_m ?_ (mem_cons_m ?_ (mem_cons_m ?_ (mem_cons_m ?_ (mem_nil_m))))))
    · refine ⟨_, 32, rfl, by kernel_rfl, ?_⟩
      intro u w9 X hE hX hd K hK
      clear hd
      simp only [overlay, List.setIfInBounds_toArray, List.set] at hK ⊢
      have hlt' : w2.heap.size ≤ w9.heap.size := hE.lt
      go_wp2_with fail
      exact hK _ _ X ((Ext.refl _).alloc _) kept_m (hX.ext ((Ext.refl _).alloc _)) ⟨_, rfl, rowI_new' w9 [], hlt', fun hx => by have := (hX _ hx).2; omega⟩
    · refine ⟨_, 33, rfl, by kernel_rfl, ?_⟩
      intro u w9 X hE hX hd K hK
      clear hd
      simp only [overlay, List.setIfInBounds_toArray, List.set] at hK ⊢
      go_wp2_with fail
      exact hK _ _ X (Ext.refl _) kept_m hX rfl
    · refine ⟨_, 34, rfl, by kernel_rfl, ?_⟩
      intro u w9 X hE hX hd K hK
      have d1 : u 33 = .pointer (some ⟨w.heap.size, 1, none⟩) := hd 1 (by kernel_rfl)
      clear hd
      simp only [overlay, List.setIfInBounds_toArray, List.set, d1] at hK ⊢
      have e9 : Ext w2 w9 := (Ext.refl w2).drew.trans hE
      obtain ⟨s0, s1, s2, s3⟩ := (HB1.out.ext e9).cell
      go_wp2_with fail
      exact hK _ _ X (Ext.refl _) kept_m hX (RdIX.old (HSX.out.ext HE2.out) ⟨o1, o1', o1''⟩ e9 hX.lo)
    · refine ⟨_, 36, rfl, by kernel_rfl, ?_⟩
      intro u w9 X hE hX hd K hK
      clear hd
      simp only [overlay, List.setIfInBounds_toArray, List.set] at hK ⊢
      go_wp2_with fail
      exact hK _ _ X (Ext.refl _) kept_m hX rfl
    · refine ⟨_, 37, rfl, by kernel_rfl, ?_⟩
      intro u w9 X hE hX hd K hK
      have d4 : u 36 = .pointer (some ⟨w.heap.size + 1, 1, none⟩) := hd 4 (by kernel_rfl)
      clear hd
      simp only [overlay, List.setIfInBounds_toArray, List.set, d4] at hK ⊢
      have e9 : Ext w2 w9 := (Ext.refl w2).drew.trans hE
      obtain ⟨s0, s1, s2, s3⟩ := (HB2.out.ext e9).cell
      go_wp2_with fail
      exact hK _ _ X (Ext.refl _) kept_m hX (RdIX.old (HSY.out.ext HE2.out) ⟨p1, p1', p1''⟩ e9 hX.lo)
    · refine ⟨_, 8, rfl, by kernel_rfl, ?_⟩
      intro u w9 X hE hX hd K hK
      clear hd
      simp only [overlay, List.setIfInBounds_toArray, List.set] at hK ⊢
      have hlt' : w2.heap.size ≤ w9.heap.size := hE.lt
      go_wp2_with fail
      exact hK _ _ X ((Ext.refl _).alloc _) kept_m (hX.ext ((Ext.refl _).alloc _)) ⟨_, rfl, box_new _ _ _ _ _, hlt', fun hx => by have := (hX _ hx).2; omega⟩
  · refine mem_cons_m ?_ (mem_cons_m ?_ (mem_cons_m ?_ (mem_nil_m)))
    · refine ⟨_, 35, rfl, by kernel_rfl, ?_⟩
      intro u w9 X hE hX hd K hK
      have d0 : ∃ g, u 32 = .slice (some ⟨g, 0, none⟩) 0 0 ∧ RowI w9 g [] ∧ w2.heap.size ≤ g ∧ ¬ X g := hd 0 (by kernel_rfl)
      have d2 : RdIX X w9 (sx) (u 34) := hd 2 (by kernel_rfl)
      clear hd
      simp only [overlay, List.setIfInBounds_toArray, List.set] at hK ⊢
      obtain ⟨g, hv0, hr0, hb0, hx0⟩ := d0
      obtain ⟨p3, c3, hv3, hk3, hi3⟩ := d2
      simp only [hv0, hv3] at hK ⊢
      refine wpList_chain rfl _ _ rfl w2.drew X _ 0 [] p3 c3 (sx) rfl (.inl ⟨rfl, rfl, g, rfl, hr0, hb0, hx0⟩) rfl hi3 hE hX (by omega) ?_
      intro v' w' X' f0 f1 f2 f3 f4
      rw [Nat.zero_add, List.nil_append] at f4
      obtain ⟨pv, cv, rfl, _⟩ := f4.own.1.form
      exact hK _ _ X' f0 f1 f2 f3 ⟨pv, cv, rfl, f4⟩
    · refine ⟨_, 38, rfl, by kernel_rfl, ?_⟩
      intro u w9 X hE hX hd K hK
      have d3 : ∃ p c, u 35 = .slice p (sx).length c ∧ ChainRow w2.heap.size X w9 (.slice p (sx).length c) (sx).length (sx) := hd 3 (by kernel_rfl)
      have d5 : RdIX X w9 (sy) (u 37) := hd 5 (by kernel_rfl)
      clear hd
      simp only [overlay, List.setIfInBounds_toArray, List.set] at hK ⊢
      obtain ⟨p0, c0, hv0, hc0⟩ := d3
      obtain ⟨p3, c3, hv3, hk3, hi3⟩ := d5
      simp only [hv0, hv3] at hK ⊢
      refine wpList_chain rfl _ _ rfl w2.drew X _ sx.length (sx) p3 c3 (sy) rfl hc0 rfl hi3 hE hX (by omega) ?_
      intro v' w' X' f0 f1 f2 f3 f4
      rw [← List.length_append, ← HSH.out] at f4
      obtain ⟨pv, cv, rfl, _⟩ := f4.own.1.form
      exact hK _ _ X' f0 f1 f2 f3 ⟨pv, cv, rfl, f4⟩
    · refine ⟨_, 39, rfl, by kernel_rfl, ?_⟩
      intro u w9 X hE hX hd K hK
      have d6 : ∃ p c, u 38 = .slice p (sh).length c ∧ ChainRow w2.heap.size X w9 (.slice p (sh).length c) (sh).length (sh) := hd 6 (by kernel_rfl)
      clear hd
      simp only [overlay, List.setIfInBounds_toArray, List.set] at hK ⊢
      obtain ⟨p0, c0, hv0, hc0⟩ := d6
      simp only [hv0] at hK ⊢
      go_wp2_with fail
      exact hK _ _ X hE (Chg.of_ext (Ext.refl _)) kept_m hX ⟨p0, c0, rfl, hc0⟩
  intro u w9 X hE hX hd hdc
  have d0 : ∃ g, u 32 = .slice (some ⟨g, 0, none⟩) 0 0 ∧ RowI w9 g [] ∧ w2.heap.size ≤ g ∧ ¬ X g := hd 0 (by decide)
  have d1 : u 33 = .pointer (some ⟨w.heap.size, 1, none⟩) := hd 1 (by decide)
  have d2 : RdIX X w9 (sx) (u 34) := hd 2 (by decide)
  have d4 : u 36 = .pointer (some ⟨w.heap.size + 1, 1, none⟩) := hd 4 (by decide)
  have d5 : RdIX X w9 (sy) (u 37) := hd 5 (by decide)
  have d8 : ∃ b, u 8 = .pointer (some ⟨b, 0, none⟩) ∧ Box4 w9 b (.int .i64 0) (.slice none 0 0) (.slice none 0 0) (.slice none 0 0) ∧ w2.heap.size ≤ b ∧ ¬ X b := hd 8 (by decide)
  have d7 : ∃ p c, u 39 = .agg #[.int .i64 1, .slice p sh.length c, .slice none 0 0, .slice none 0 0] ∧ ChainRow w2.heap.size X w9 (.slice p sh.length c) sh.length sh := hdc 2 rfl
  clear hd hdc
  simp only [overlay, List.setIfInBounds_toArray, List.set, d1, d4]
  have e9 : Ext w2 w9 := (Ext.refl w2).drew.trans hE
  obtain ⟨bo, hvb, hbox, hbB, hbx⟩ := d8
  obtain ⟨p8, c8, hva, hch⟩ := d7
  have hO := hch.apart hbox hbx
  simp only [hvb, hva]
  clear d0 d1 d2 d4 d5 hvb hva hch
  obtain ⟨s0, s1, s2, s3⟩ := hbox.cell
  have f0 := hbox.free 0
  have f1 := hbox.free 1
  have f2 := hbox.free 2
  have f3 := hbox.free 3
  obtain ⟨gg1, gg2, gg3⟩ := hbox.put4 e9 hbB (.int .i64 1) (.slice p8 sh.length c8) (.slice none 0 0) (.slice none 0 0)
  have hO2 := hO.same (w' := ((((w9.setCell ⟨bo, 0, none⟩ (.int .i64 1)).setCell ⟨bo, 1, none⟩ (.slice p8 sh.length c8)).setCell ⟨bo, 2, none⟩ (.slice none 0 0)).setCell ⟨bo, 3, none⟩ (.slice none 0 0))) (Y := fun q => q = bo) (fun g hg hlt hne => ⟨gg3 g hne, hne⟩)
  have HGG := Lib.hid (And.intro gg1 (And.intro gg2 hO2))
  clear gg1 gg2 gg3 hO hO2 hbox hbx hX hE
  generalize u 32 = tz32 at *
  generalize u 34 = tz34 at *
  generalize u 35 = tz35 at *
  generalize u 37 = tz37 at *
  generalize u 38 = tz38 at *
  clear u
  go_wp2_with fail
  refine OnlyN.mk ?_
  obtain ⟨gg1, gg2, hO⟩ := HGG.out
  clear HGG s0 s1 s2 s3 f0 f1 f2 f3 e9
  generalize ((((w9.setCell ⟨bo, 0, none⟩ (.int .i64 1)).setCell ⟨bo, 1, none⟩ (.slice p8 sh.length c8)).setCell ⟨bo, 2, none⟩ (.slice none 0 0)).setCell ⟨bo, 3, none⟩ (.slice none 0 0)) = w4 at *
  obtain ⟨p8', c8', he8, ⟨l1, l2, l3⟩, hi8⟩ := hO.ints
  cases he8
  have hE4 := HE2.out.trans gg1
  have hB1 := HB1.out.ext gg1
  have hB2 := HB2.out.ext gg1
  have hB3 := HB3.out.ext gg1
  have HI4 := Lib.hid hi8
  have hlt4 := gg2.lt
  have hlt24 := gg1.lt
  obtain ⟨u0, u1, u2, u3⟩ := gg2.cell
  clear HB1 HB2 HB3 HE2 hO
  go_wp2_with fail
  refine (r2right_any (fun q => w2.heap.size ≤ q ∧ ¬ q = bo) p8 c8 sh w4 hi8 (by unfold lenMax; omega)).mono ?_
  rintro e w4' ⟨rfl, rfl⟩
  clear hi8 u0 u1 u2 u3
  have hR1 := HR2.out
  rw [← HSH.out] at hR1
  by_cases hsr : shapeRight sh = true
  rotate_left
  · rw [if_neg hsr] at hR1
    subst hR1
    rw [Bool.eq_false_iff.2 hsr]
    obtain ⟨x0, x1, x2, x3⟩ := hB3.cell
    have y0 := hB3.free 0
    have y1 := hB3.free 1
    have y2 := hB3.free 2
    have y3 := hB3.free 3
    go_wp2_with fail
    obtain ⟨g1, g2, g3⟩ := hB3.put4 hE4 (by omega) (.int .i64 0) (.slice none 0 0) (.slice none 0 0) (.slice none 0 0)
    revert g1 g2 g3
    generalize ((((w4.setCell ⟨w.heap.size + 1 + 1, 0, none⟩ (.int .i64 0)).setCell ⟨w.heap.size + 1 + 1, 1, none⟩ (.slice none 0 0)).setCell ⟨w.heap.size + 1 + 1, 2, none⟩ (.slice none 0 0)).setCell ⟨w.heap.size + 1 + 1, 3, none⟩ (.slice none 0 0)) = w9
    intro g1 g2 g3
    obtain ⟨z0, z1, z2, z3⟩ := g2.cell
    refine bodyPost_ret (v := .tuple #[.agg #[(.int .i64 0), (.slice none 0 0), (.slice none 0 0), (.slice none 0 0)], .int .i64 21]) ?_ rfl ⟨_, _, _, _, rfl, Arr.zero_at _ _, g1⟩
    simp [results, Try.results18, go_sem, z0, z1, z2, z3]
  rw [if_pos hsr] at hR1
  have HR3 := Lib.hid hR1
  rw [hsr]
  clear hR1 HR2 hsr
  have HM0 := Lib.hid (MkB.fresh (X := (fun b => b < w4.heap.size ∧ w.heap.size ≤ b)) hE4 (by omega) gg2 ⟨hlt4, by omega⟩ (fun x hx => hx.1))
  have HG1 := Lib.hid hE4
  have HB1 := Lib.hid hB1
  have HB2 := Lib.hid hB2
  have HB3 := Lib.hid hB3
  have HNB : Hid (encP nx ny 0 = []) := rfl
  have hltB : w.heap.size + 1 + 1 < bo := by omega
  clear gg1 gg2 hE4 hB1 hB2 hB3
  go_wp2_with fail
  go_loopw [9] (fun iv wr => ∃ (i : Nat) (v2 : Value) (n : List Int), i ≤ nx.length ∧ iv = .int .i64 i ∧ n = encP nx ny i ∧ MkB w wr (fun b => b < w4.heap.size ∧ w.heap.size ≤ b) bo 1 (.slice p8 sh.length c8) v2 (.slice none 0 0) n [] ∧ (∀ q, q < w4.heap.size → q ≠ bo → wr.heap[q]? = w4.heap[q]?)) (fun iv _ => nx.length - (intOf iv).toNat)
  case atStart => exact ⟨0, _, _, Nat.zero_le _, rfl, HNB.out.symm, HM0.out, fun _ _ _ => rfl⟩
  case round =>
    obtain ⟨i, v2, n, hi, rfl, hn, hM, hkeep⟩ := hrel
    clear HM0
    have HK := Lib.hid hkeep
    have hB1 := HB1.out.kept (HK.out w.heap.size (by omega) (by omega))
    have hB2 := HB2.out.kept (HK.out (w.heap.size + 1) (by omega) (by omega))
    have hB3 := HB3.out.kept (HK.out (w.heap.size + 1 + 1) (by omega) (by omega))
    clear hkeep
    by_cases hil : i < nx.length
    · have HNI := Lib.hid (show n = encP nx ny i ++ encQ nx ny i 0 by rw [hn]; simp [encQ])
      have HM1 := Lib.hid hM
      obtain ⟨s0, s1, s2, s3⟩ := hB1.cell
      clear hM hn hB1 hB2 hB3
      obtain ⟨wo, rfl⟩ : ∃ wx : World, wx = wr := ⟨_, rfl⟩
      go_wp2_with fail
      clear s0 s1 s2 s3
      go_loopw [10] (fun jv wr => ∃ (j : Nat) (v2 : Value) (n : List Int), j ≤ ny.length ∧ jv = .int .i64 j ∧ n = encP nx ny i ++ encQ nx ny i j ∧ MkB w wr (fun b => b < w4.heap.size ∧ w.heap.size ≤ b) bo 1 (.slice p8 sh.length c8) v2 (.slice none 0 0) n [] ∧ (∀ q, q < w4.heap.size → q ≠ bo → wr.heap[q]? = w4.heap[q]?)) (fun jv _ => ny.length - (intOf jv).toNat)
      case atStart => exact ⟨0, _, _, Nat.zero_le _, rfl, HNI.out, HM1.out, HK.out⟩
      case round =>
        clear v2 HNI HM1 HK
        obtain ⟨j, v2, n, hj, rfl, hn, hM, hkeep⟩ := hrel
        have HK := Lib.hid hkeep
        have hB1 := HB1.out.kept (HK.out w.heap.size (by omega) (by omega))
        have hB2 := HB2.out.kept (HK.out (w.heap.size + 1) (by omega) (by omega))
        clear hkeep
        by_cases hjl : j < ny.length
        · obtain ⟨bn, offn, rfl, hny, _, _⟩ := (HNY.out.ext HG1.out).get hjl
          have hbn := World.block_lt_of_cell? w4 ⟨bn, offn + j, none⟩ hny
          have hbnG : bn < w.heap.size := by
            obtain ⟨b', o', e', _, hc', _⟩ := HNY.out j hjl
            cases e'
            exact World.block_lt_of_cell? w ⟨bn, offn + j, none⟩ hc'
          have hes := encQ_succ nx (i := i) hjl
          have hdn := (dig_num nx (ny.getD j 0) HRAD.out (HYN.out _ (by simp [List.getD, hjl]))).2 ((dig nx (ny.getD j 0)).1.getD i 0) (by simp [List.getD, dig_len, hil])
          have hnn := HYN.out (ny.getD j 0) (by simp [List.getD, hjl])
          have hnl2 := enc_len nx ny (i := i) hj
          rw [← hn] at hnl2
          have hmul : i * ny.length ≤ 65536 * 65536 := Nat.mul_le_mul (by omega) hnl
          have hnb : n.length < 17592186044416 := by omega
          have hdl := dig_len nx (ny.getD j 0)
          generalize ny.getD j 0 = y at *
          generalize hdg : dig nx y = dd at *
          obtain ⟨dl, dq⟩ := dd
          have HDG := Lib.hid (show (dig nx y).1 = dl by rw [hdg])
          have HDL := Lib.hid (show dl.length = nx.length from hdl)
          have hgd : ((dl, dq) : List Int × Int).1.getD i 0 = dl.getD i 0 := rfl
          rw [hgd] at hes hdn
          have HNN := Lib.hid (show NumB y from hnn)
          clear hdl hnn hdg hgd
          have HN1 := Lib.hid (show n ++ [dl.getD i 0] = encP nx ny i ++ encQ nx ny i (j + 1) by rw [hes, ← List.append_assoc, ← hn])
          have hd1 : -9223372036854775808 ≤ dl.getD i 0 ∧ dl.getD i 0 ≤ 9223372036854775807 := ⟨by have := hdn.1; omega, by have := hdn.2; omega⟩
          have HD1 := Lib.hid hd1
          have HM1 := Lib.hid hM
          have hcy : wr.cell? ⟨bn, offn + j, none⟩ = some (.int .i64 y) := (World.cell?_of_block (w := w4) (w' := wr) (a := ⟨bn, offn + j, none⟩) (HK.out bn hbn (by omega))).trans hny
          obtain ⟨ob0, ob1, ob2, ob3⟩ := hM.box.cell
          obtain ⟨s0, s1, s2, s3⟩ := hB1.cell
          obtain ⟨t0, t1, t2, t3⟩ := hB2.cell
          clear hes hdn hnl2 hmul hM hn hny hd1
          go_wp2_with fail
          have hS0 : wr.drew.cell? ⟨bo, 2, none⟩ = some v2 ∧ wr.drew.cell? ⟨w.heap.size, 2, none⟩ = some (.slice q2 nx.length m2) ∧ wr.drew.cell? ⟨w.heap.size + 1, 2, none⟩ = some (.slice (some ⟨bn, offn, none⟩) ny.length n2) ∧ wr.drew.cell? ⟨bn, offn + j, none⟩ = some (.int .i64 y) := ⟨ob2, s2, t2, hcy⟩
          refine wp_region_g [0, 1, 2, 3, 4, 5, 6, 7, 8, 10] [9, 11, 12, 13, 14, 15, 16] (fun w' => w'.cell? ⟨bo, 2, none⟩ = some v2 ∧ w'.cell? ⟨w.heap.size, 2, none⟩ = some (.slice q2 nx.length m2) ∧ w'.cell? ⟨w.heap.size + 1, 2, none⟩ = some (.slice (some ⟨bn, offn, none⟩) ny.length n2) ∧ w'.cell? ⟨bn, offn + j, none⟩ = some (.int .i64 y)) (by kernel_rfl) (by kernel_rfl) hS0 ?_
          iterate 10
            refine wpHead_cons (v := ?_) rfl (by rfl) (fun w' hS => ?_) ?_
            rotate_left
            · obtain ⟨hS1, hS2, hS3, hS4⟩ := hS
              go_simp
              try with_reducible rfl
            try simp only [Act.put, List.setIfInBounds_toArray, List.set]
          unfold wpHead
          clear ob0 ob1 ob2 ob3 s0 s1 s2 s3 t0 t1 t2 t3 hB1 hB2 hcy
          refine wpTail_cons rfl (fun K hK => ?_)
          go_wp2_with fail
          refine (rdigits_any F q2 m2 nx y wr.drew (HNX.out.ext (HM1.out.ext.trans (Ext.refl _).drew)) ⟨o2, o2', o2''⟩ HRAD.out HNN.out).mono ?_
          rintro e wd ⟨g, rfl, hg, hrow, hEd⟩
          rw [HDG.out] at hrow
          have hEd' : Ext wr wd := (Ext.refl wr).drew.trans hEd
          have hS1 := hS0
          clear hS0
          have hS1 : wd.cell? ⟨bo, 2, none⟩ = some v2 ∧ wd.cell? ⟨w.heap.size, 2, none⟩ = some (.slice q2 nx.length m2) ∧ wd.cell? ⟨w.heap.size + 1, 2, none⟩ = some (.slice (some ⟨bn, offn, none⟩) ny.length n2) ∧ wd.cell? ⟨bn, offn + j, none⟩ = some (.int .i64 y) := ⟨hEd.cell hS1.1, hEd.cell hS1.2.1, hEd.cell hS1.2.2.1, hEd.cell hS1.2.2.2⟩
          have HS1 := Lib.hid hS1
          clear hS1
          have hMd := HM1.out.next hEd'
          have HMD := Lib.hid hMd
          clear hMd hEd
          go_wp2_with fail
          refine hK _ _ HS1.out ?_
          try simp only [Act.put, List.setIfInBounds_toArray, List.set]
          refine wpTail_cons rfl (fun K hK => ?_)
          go_wp2_with fail
          refine hK _ _ HS1.out ?_
          try simp only [Act.put, List.setIfInBounds_toArray, List.set]
          refine wpTail_cons rfl (fun K hK => ?_)
          have hcd := hrow.cell (j := i) (by rw [HDL.out]; exact hil)
          generalize dl.getD i 0 = d at *
          go_wp2_with fail
          refine hK _ _ HS1.out ?_
          try simp only [Act.put, List.setIfInBounds_toArray, List.set]
          refine wpTail_cons rfl (fun K hK => ?_)
          clear hcd hrow
          go_wp2_with fail
          have hEn : Ext wd (wd.alloc (.cells #[.int .i64 d] 3)) := (Ext.refl _).alloc _
          have hnc : (wd.alloc (.cells #[.int .i64 d] 3)).cell? ⟨wd.heap.size, 0, none⟩ = some (.int .i64 d) := by simp
          have hM7 := HMD.out.next hEn
          have hS7 := HS1.out
          replace hS7 := And.intro (hEn.cell hS7.1) (And.intro (hEn.cell hS7.2.1) (And.intro (hEn.cell hS7.2.2.1) (hEn.cell hS7.2.2.2)))
          have hE7 := hEd'.trans hEn
          generalize wd.alloc (.cells #[.int .i64 d] 3) = w7 at hEn hnc hM7 hS7 hE7 ⊢
          refine hK _ _ hS7 ?_
          try simp only [Act.put, List.setIfInBounds_toArray, List.set]
          refine wpTail_cons rfl (fun K hK => ?_)
          refine wpList_append_int rfl _ _ rfl w.heap.size _ v2 n.length n d rfl hM7.on ⟨wd.heap.size, 0, none⟩ 1 rfl hnc hM7.xl2 HD1.out hnb hM7.ext.lt ?_
          intro gq cap w8 hon8 hgrow hat8 _ _
          obtain ⟨q1', q2', q3'⟩ := hM7.grownN hgrow
          obtain ⟨_, _, tt2, _⟩ := q2'.cell
          have tf := q2'.free 2
          have hbw : bo < w4.heap.size := hlt4
          have hS8 : w8.cell? ⟨bo, 2, none⟩ = some v2 ∧ w8.cell? ⟨w.heap.size, 2, none⟩ = some (.slice q2 nx.length m2) ∧ w8.cell? ⟨w.heap.size + 1, 2, none⟩ = some (.slice (some ⟨bn, offn, none⟩) ny.length n2) ∧ w8.cell? ⟨bn, offn + j, none⟩ = some (.int .i64 y) :=
            ⟨tt2, (World.cell?_of_block (w := w7) (a := ⟨w.heap.size, 2, none⟩) (q3' w.heap.size ⟨by omega, by omega⟩)).trans hS7.2.1, (World.cell?_of_block (w := w7) (a := ⟨w.heap.size + 1, 2, none⟩) (q3' (w.heap.size + 1) ⟨by omega, by omega⟩)).trans hS7.2.2.1,
              (World.cell?_of_block (w := w7) (a := ⟨bn, offn + j, none⟩) ((q1'.block hbnG).trans (hM7.ext.block hbnG).symm)).trans hS7.2.2.2⟩
          obtain ⟨hM8, hfar⟩ := hM7.storedN (n' := n ++ [d]) hgrow (by simp) hon8 hat8
          have hkeep3 : ∀ q, q < w4.heap.size → q ≠ bo → (w8.setCell ⟨bo, 2, none⟩ (.slice (some ⟨gq, 0, none⟩) (n.length + 1) cap)).heap[q]? = w4.heap[q]? := fun q h1 h2 => by
            by_cases h : w.heap.size ≤ q
            · exact ((hfar q ⟨h1, h⟩ h2).trans (hE7.block (HM1.out.xl q ⟨h1, h⟩))).trans (HK.out q h1 h2)
            · exact (hM8.ext.block (by omega)).trans (HG1.out.block (by omega)).symm
          refine hK _ _ hS8 ?_
          try simp only [Act.put, List.setIfInBounds_toArray, List.set]
          refine wpTail_free2 rfl rfl (by kernel_rfl) ?_
          clear hfar hM7 hon8 hgrow hat8 q1' q2' q3' hnc hEn hS7 hS8 hE7
          go_wp2_with fail
          refine OnlyN.mk ?_
          revert hM8 hkeep3
          generalize w8.setCell ⟨bo, 2, none⟩ (.slice (some ⟨gq, 0, none⟩) (n.length + 1) cap) = wk
          intro hM8 hkeep3
          clear tt2 tf
          (try simp only [Exit.inBlock, Exit.then])
          go_wp2_with fail
          go_roundw
          case rel => exact ⟨j + 1, _, n ++ [d], by omega, by go_num, HN1.out, hM8, hkeep3⟩
          case measure => simp [intOf]; omega
        · have hje : j = ny.length := by omega
          subst hje
          rw [← encP_succ] at hn
          have HN1 := Lib.hid hn
          have HMR := Lib.hid hM
          clear hn hM
          obtain ⟨t0, t1, t2, t3⟩ := hB2.cell
          go_wp2_with fail
          go_roundw
          case rel => exact ⟨i + 1, v2, n, by omega, by go_num, HN1.out, HMR.out, HK.out⟩
          case measure => simp [intOf]; omega
    · have hie : i = nx.length := by omega
      subst hie
      obtain ⟨s0, s1, s2, s3⟩ := hB1.cell
      have hiw := HI4.out.mono (G := fun q => w.heap.size + 1 + 1 < q ∧ q < w4.heap.size ∧ q ≠ bo) (w' := wr) (fun q hq hlt => ⟨⟨by omega, hlt, hq.2⟩, HK.out q hlt hq.2⟩)
      have hA := MkB.arr (G := fun q => w.heap.size + 1 + 1 < q ∧ q < w4.heap.size ∧ q ≠ bo) hM (by omega) ⟨p8, c8, rfl, ⟨l1, l2, l3⟩, hiw⟩ (by simp)
      obtain ⟨p9, c9, rfl, _, _⟩ := hM.on.ints
      obtain ⟨ob0, ob1, ob2, ob3⟩ := hM.box.cell
      obtain ⟨x0, x1, x2, x3⟩ := hB3.cell
      have y0 := hB3.free 0
      have y1 := hB3.free 1
      have y2 := hB3.free 2
      have y3 := hB3.free 3
      have hEM := hM.ext
      have hne : encN nx ny = n := hn.symm
      have HNE := Lib.hid hne
      have HAA := Lib.hid hA
      have HB9 := Lib.hid hB3
      clear hM hiw hA hB3 hB1 hB2 HK hn hne
      go_wp2_with fail
      obtain ⟨g1, g2, g3⟩ := HB9.out.put4 hEM (by omega) (.int .i64 1) (.slice p8 sh.length c8) (.slice p9 n.length c9) (.slice none 0 0)
      revert g1 g2 g3
      generalize ((((wr.setCell ⟨w.heap.size + 1 + 1, 0, none⟩ (.int .i64 1)).setCell ⟨w.heap.size + 1 + 1, 1, none⟩ (.slice p8 sh.length c8)).setCell ⟨w.heap.size + 1 + 1, 2, none⟩ (.slice p9 n.length c9)).setCell ⟨w.heap.size + 1 + 1, 3, none⟩ (.slice none 0 0)) = w9
      intro g1 g2 g3
      obtain ⟨z0, z1, z2, z3⟩ := g2.cell
      have hA9 := ArrAt.mono (G := fun b => w.heap.size ≤ b) (w' := w9) (fun b hb _ => ⟨by rcases hb with hb | hb <;> omega, g3 b (by rcases hb with hb | hb; have := hb.2; omega; omega)⟩) _ _ _ _ _ HAA.out
      refine bodyPost_ret (v := .tuple #[.agg #[(.int .i64 1), (.slice p8 sh.length c8), (.slice p9 n.length c9), (.slice none 0 0)], .int .i64 0]) ?_ rfl ⟨_, _, _, _, by rw [← HR3.out], by rw [← HR3.out, HNE.out]; exact hA9, g1⟩
      simp [results, Try.results18, go_sem, z0, z1, z2, z3]

end Go.Proofs.Ytmpjnjhiklaofaa
