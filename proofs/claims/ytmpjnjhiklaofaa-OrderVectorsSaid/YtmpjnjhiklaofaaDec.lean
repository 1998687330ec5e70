/-
  THE WALK of radix.Decode. (Printed by gen_dec.py.)
-/
import Derived.Test.YtmpjnjhiklaofaaEnc
import Derived.Test.YtmpjnjhiklaofaaSlice
namespace Go.Proofs.Ytmpjnjhiklaofaa
set_option linter.unusedSimpArgs false
set_option linter.unusedVariables false
open Go.RowKit

theorem size_cons {d : Int} {r : List Int} (h : rightGo 1 (d :: r) = true) (h8 : (d :: r).length ≤ 8) : shapeSize (d :: r) = d * shapeSize r ∧ 0 ≤ d ∧ d ≤ 65536 ∧ 0 ≤ shapeSize r ∧ shapeSize r ≤ 65536 := by
  have hr := rightGo_tail h
  have h1 : shapeSize (d :: r) = prodA 1 (d :: r) := by
    unfold shapeSize
    rw [if_pos (by simp only [shapeRight, h, Bool.and_true, decide_eq_true_eq]; exact h8), ← prodA_volOf]
  have h2 : shapeSize r = prodA 1 r := by
    unfold shapeSize
    rw [if_pos (by simp only [shapeRight, hr, Bool.and_true, decide_eq_true_eq]; simp at h8; omega), ← prodA_volOf]
  have hd : 0 ≤ d ∧ d ≤ 65536 := by
    rw [rightGo] at h
    by_cases hn : d < 0 ∨ 65536 < d
    · rw [if_pos hn] at h; cases h
    · omega
  refine ⟨?_, hd.1, hd.2, ?_, ?_⟩
  · rw [h1, h2, prodA]
    split
    · rename_i h0; rw [h0]; simp
    · rw [prodA_scale, Int.one_mul]
  · rw [h2]; exact prodA_nonneg r 1 (by omega) hr
  · rw [h2]; exact prodA_le r 1 (by omega) (by omega) hr
theorem decS_right {s : List Int} (h : rightGo 1 s = true) (h8 : s.length ≤ 8) : rightGo 1 (decS s) = true ∧ (decS s).length ≤ 8 ∧ shapeSize (decS s) = shapeSize s := by
  unfold decS
  split
  · rename_i h0
    have : s = [] := List.eq_nil_of_length_eq_zero h0
    subst this
    exact ⟨by decide, by decide, by decide⟩
  · exact ⟨h, h8, rfl⟩


set_option maxRecDepth 1000000 in
set_option maxHeartbeats 16000000 in
theorem decode_any (F G : Nat → Prop) (x y : Arr) (c0 c1 c2 c3 d0 d1 d2 d3 : Value) (w : World) (hx : ArrAt F w x c0 c1 c2 c3) (hy : ArrAt G w y d0 d1 d2 d3) :
    Calls Try.prog 19 #[.agg #[c0, c1, c2, c3], .agg #[d0, d1, d2, d3]] w fun e w' =>
      ∃ e0 e1 e2 e3, e = .returned (.tuple #[.agg #[e0, e1, e2, e3], .int .i64 (decV x y).2]) ∧ ArrAt (fun b => w.heap.size ≤ b) w' (decV x y).1 e0 e1 e2 e3 ∧ Ext w w' := by
  obtain ⟨kx, sx, nx, ix⟩ := x
  obtain ⟨ky, sy, ny, iy⟩ := y
  have hx' := hx
  have hy' := hy
  unfold ArrAt at hx' hy'
  obtain ⟨rfl, hkx, ⟨q1, m1, rfl, ⟨o1, o1', o1''⟩, i1⟩, ⟨q2, m2, rfl, ⟨o2, o2', o2''⟩, i2⟩, ⟨q3, m3, rfl, ⟨o3, o3', o3''⟩, i3⟩⟩ := hx'
  obtain ⟨rfl, hky, ⟨r1, n1, rfl, ⟨p1, p1', p1''⟩, j1⟩, ⟨r2, n2, rfl, ⟨p2, p2', p2''⟩, j2⟩, ⟨r3, n3, rfl, ⟨p3, p3', p3''⟩, j3⟩⟩ := hy'
  have HX := Lib.hid hx
  have HY := Lib.hid hy
  have HNX := Lib.hid i2
  have HNY := Lib.hid j2
  have HSX := Lib.hid i1
  have HSY := Lib.hid j1
  clear hx hy i1 i2 i3 j1 j2 j3
  generalize hres : decV (.mk kx sx nx ix) (.mk ky sy ny iy) = res
  unfold decV at hres
  have HR := Lib.hid hres
  clear hres
  go_enter Try.func19, Try.ntmps19
  go_wp2_with fail
  have hE0 : Ext w (((w.alloc (.cells #[.int .i64 kx, .slice q1 sx.length m1, .slice q2 nx.length m2, .slice q3 ix.length m3] 26)).alloc (.cells #[.int .i64 ky, .slice r1 sy.length n1, .slice r2 ny.length n2, .slice r3 iy.length n3] 26)).alloc (.cells #[.int .i64 0, .slice none 0 0, .slice none 0 0, .slice none 0 0] 26)) := (((Ext.refl _).alloc _).alloc _).alloc _
  have hB1 := ((box_new w (.int .i64 kx) (.slice q1 sx.length m1) (.slice q2 nx.length m2) (.slice q3 ix.length m3)).ext ((Ext.refl _).alloc (.cells #[.int .i64 ky, .slice r1 sy.length n1, .slice r2 ny.length n2, .slice r3 iy.length n3] 26))).ext ((Ext.refl _).alloc (.cells #[.int .i64 0, .slice none 0 0, .slice none 0 0, .slice none 0 0] 26))
  have hB2 := (box_new (w.alloc (.cells #[.int .i64 kx, .slice q1 sx.length m1, .slice q2 nx.length m2, .slice q3 ix.length m3] 26)) (.int .i64 ky) (.slice r1 sy.length n1) (.slice r2 ny.length n2) (.slice r3 iy.length n3)).ext ((Ext.refl _).alloc (.cells #[.int .i64 0, .slice none 0 0, .slice none 0 0, .slice none 0 0] 26))
  have hB3 := box_new ((w.alloc (.cells #[.int .i64 kx, .slice q1 sx.length m1, .slice q2 nx.length m2, .slice q3 ix.length m3] 26)).alloc (.cells #[.int .i64 ky, .slice r1 sy.length n1, .slice r2 ny.length n2, .slice r3 iy.length n3] 26)) (.int .i64 0) (.slice none 0 0) (.slice none 0 0) (.slice none 0 0)
  rw [World.size_alloc] at hB2
  rw [World.size_alloc, World.size_alloc] at hB3
  generalize ((w.alloc (.cells #[.int .i64 kx, .slice q1 sx.length m1, .slice q2 nx.length m2, .slice q3 ix.length m3] 26)).alloc (.cells #[.int .i64 ky, .slice r1 sy.length n1, .slice r2 ny.length n2, .slice r3 iy.length n3] 26)).alloc (.cells #[.int .i64 0, .slice none 0 0, .slice none 0 0, .slice none 0 0] 26) = w1 at hE0 hB1 hB2 hB3 ⊢
  refine (radWrong_any F G _ _ _ _ _ _ _ _ _ _ w1 (HX.out.ext hE0) (HY.out.ext hE0)).mono ?_
  rintro e w2 ⟨rfl, hE1⟩
  replace hB1 := hB1.ext hE1
  replace hB2 := hB2.ext hE1
  replace hB3 := hB3.ext hE1
  have hE2 := hE0.trans hE1
  clear hE0 hE1
  have hlt2 := hB3.lt
  obtain ⟨s0, s1, s2, s3⟩ := hB1.cell
  obtain ⟨t0, t1, t2, t3⟩ := hB2.cell
  obtain ⟨x0, x1, x2, x3⟩ := hB3.cell
  have y0 := hB3.free 0
  have y1 := hB3.free 1
  have y2 := hB3.free 2
  have y3 := hB3.free 3
  by_cases hw : radErr (.mk kx sx nx ix) (.mk ky sy ny iy) = 0
  rotate_left
  · have hR1 := HR.out
    rw [if_pos hw] at hR1
    subst hR1
    generalize hrv : radErr (.mk kx sx nx ix) (.mk ky sy ny iy) = rv at *
    have HRV := Lib.hid hrv
    clear hrv HR
    go_wp2_with fail
    obtain ⟨g1, g2, g3⟩ := hB3.put4 hE2 (by omega) (.int .i64 0) (.slice none 0 0) (.slice none 0 0) (.slice none 0 0)
    revert g1 g2 g3
    generalize ((((w2.setCell ⟨w.heap.size + 1 + 1, 0, none⟩ (.int .i64 0)).setCell ⟨w.heap.size + 1 + 1, 1, none⟩ (.slice none 0 0)).setCell ⟨w.heap.size + 1 + 1, 2, none⟩ (.slice none 0 0)).setCell ⟨w.heap.size + 1 + 1, 3, none⟩ (.slice none 0 0)) = w9
    intro g1 g2 g3
    obtain ⟨z0, z1, z2, z3⟩ := g2.cell
    refine bodyPost_ret (v := .tuple #[.agg #[(.int .i64 0), (.slice none 0 0), (.slice none 0 0), (.slice none 0 0)], .int .i64 rv]) ?_ rfl ⟨_, _, _, _, by rw [HRV.out], Arr.zero_at _ _, g1⟩
    simp [results, Try.results19, go_sem, z0, z1, z2, z3]
  have hR1 := HR.out
  rw [if_neg (by simp [hw])] at hR1
  have HR1 := Lib.hid hR1
  have hparts := rad_parts hw
  rw [hw]
  clear hR1 HR hw
  obtain ⟨hrx, hry, rfl, rfl, hsl⟩ := hparts
  have HRX := Lib.hid hrx
  have HRY := Lib.hid hry
  clear hrx hry
  go_upto_if 24 with fail
  go_cut [7] (fun sv wx => ∃ (p : Option Addr) (c : Nat), sv = .slice p (decS sy).length c ∧ SlOk (decS sy).length c ∧ Hid (IntsAt (fun q => G q ∨ w2.heap.size ≤ q) wx p (decS sy)) ∧ Ext w2 wx)
  case first =>
    by_cases h0 : sy.length = 0
    · have hd : decS sy = [1] := by unfold decS; rw [if_pos h0]
      have HD := Lib.hid hd
      clear hd
      go_wp2_with fail
      go_meet
      case rel =>
        rw [HD.out]
        exact ⟨_, _, rfl, ⟨by simp, by simp, by simp⟩, (rowI_new' w2 [1]).ints (fun x hx => by simp at hx; subst hx; decide) |>.mono (fun b hb _ => ⟨.inr (by have : b = w2.heap.size := hb; omega), rfl⟩), (Ext.refl _).alloc _⟩
    · have hd : decS sy = sy := by unfold decS; rw [if_neg h0]
      have HD := Lib.hid hd
      have h0' : ((sy.length : Int) == 0) = false := beq_eq_false_iff_ne.2 (by omega)
      clear hd
      go_wp2_with fail
      go_meet
      case rel =>
        rw [HD.out]
        exact ⟨_, _, rfl, ⟨p1, p1', p1''⟩, (HSY.out.ext hE2).mono (fun b hb _ => ⟨.inl hb, rfl⟩), Ext.refl _⟩
  case rest =>
    obtain ⟨ps, cs, rfl, ⟨k1, k2, k3⟩, HIS, hEc⟩ := hcut
    replace hB1 := hB1.ext hEc
    replace hB2 := hB2.ext hEc
    replace hB3 := hB3.ext hEc
    have hEw := hE2.trans hEc
    have hltc := hEc.lt
    obtain ⟨sc0, stl, hsc⟩ : ∃ s0 tl, decS sy = s0 :: tl := by
      unfold decS
      split
      · exact ⟨1, [], rfl⟩
      · rename_i h; cases sy with
        | nil => simp at h
        | cons a t => exact ⟨a, t, rfl⟩
    have hR1 := HR1.out
    rw [hsc] at hR1 k1 k3
    have HR2 := Lib.hid hR1
    have HIS2 := Lib.hid (show IntsAt (fun q => G q ∨ w2.heap.size ≤ q) wc ps (sc0 :: stl) by rw [← hsc]; exact HIS.out)
    rw [hsc]
    have HSC := Lib.hid hsc
    clear hsc hR1 HR1 HIS
    obtain ⟨bs, os, rfl, as0, _, _⟩ := HIS2.out.get (show 0 < (sc0 :: stl).length by simp)
    clear s0 s1 s2 s3 t0 t1 t2 t3 x0 x1 x2 x3 y0 y1 y2 y3
    obtain ⟨s0, s1, s2, s3⟩ := hB1.cell
    obtain ⟨t0, t1, t2, t3⟩ := hB2.cell
    obtain ⟨x0, x1, x2, x3⟩ := hB3.cell
    have y0 := hB3.free 0
    have y1 := hB3.free 1
    have y2 := hB3.free 2
    have y3 := hB3.free 3
    have as0 : wc.cell? ⟨bs, os, none⟩ = some (.int .i64 sc0) := by simpa using as0
    have HR3 : Hid ((if sx.length = 1 ∧ nx.length ≠ 1 ∧ (nx.length : Int) ≠ sc0 then (Arr.zero, 16) else if (decGo nx ny (shapeSize stl).toNat sc0.toNat (shapeSize stl).toNat 0 []).2 ≠ 0 then (Arr.zero, (decGo nx ny (shapeSize stl).toNat sc0.toNat (shapeSize stl).toNat 0 []).2) else (.mk 1 stl (decGo nx ny (shapeSize stl).toNat sc0.toNat (shapeSize stl).toNat 0 []).1 [], 0)) = res) := HR2.out
    clear HR2
    by_cases hbad : sx.length = 1 ∧ nx.length ≠ 1 ∧ (nx.length : Int) ≠ sc0
    · have hR1 := HR3.out
      rw [if_pos hbad] at hR1
      subst hR1
      obtain ⟨b1, b2, b3⟩ := hbad
      have e1 : ((sx.length : Int) == 1) = true := by simp; omega
      have e2 : ((nx.length : Int) != 1) = true := by simp; omega
      have e3 : ((nx.length : Int) != sc0) = true := by simpa using b3
      clear b3 HR3
      go_wp2_with fail
      go_quiet (fail)
      simp only [Exit.then]
      have hEw2 : Ext w (wc.drewN nq) := hEw.drewN nq
      replace hB3 := hB3.ext ((Ext.refl wc).drewN nq)
      clear as0 e1 e2 e3 b1 b2
      clear s0 s1 s2 s3 t0 t1 t2 t3 x0 x1 x2 x3 y0 y1 y2 y3
      obtain ⟨x0, x1, x2, x3⟩ := hB3.cell
      have y0 := hB3.free 0
      have y1 := hB3.free 1
      have y2 := hB3.free 2
      have y3 := hB3.free 3
      generalize wc.drewN nq = wd at *
      go_wp2_with fail
      obtain ⟨g1, g2, g3⟩ := hB3.put4 hEw2 (by omega) (.int .i64 0) (.slice none 0 0) (.slice none 0 0) (.slice none 0 0)
      revert g1 g2 g3
      generalize ((((wd.setCell ⟨w.heap.size + 1 + 1, 0, none⟩ (.int .i64 0)).setCell ⟨w.heap.size + 1 + 1, 1, none⟩ (.slice none 0 0)).setCell ⟨w.heap.size + 1 + 1, 2, none⟩ (.slice none 0 0)).setCell ⟨w.heap.size + 1 + 1, 3, none⟩ (.slice none 0 0)) = w9
      intro g1 g2 g3
      obtain ⟨z0, z1, z2, z3⟩ := g2.cell
      refine bodyPost_ret (v := .tuple #[.agg #[(.int .i64 0), (.slice none 0 0), (.slice none 0 0), (.slice none 0 0)], .int .i64 16]) ?_ rfl ⟨_, _, _, _, rfl, Arr.zero_at _ _, g1⟩
      simp [results, Try.results19, go_sem, z0, z1, z2, z3]
    · have hgood : sx.length = 1 → nx.length = 1 ∨ (nx.length : Int) = sc0 := fun h1 => by
        rcases Classical.em (nx.length = 1) with h | h
        · exact .inl h
        · exact .inr (Classical.byContradiction fun h3 => hbad ⟨h1, h, h3⟩)
      have hR1 := HR3.out
      rw [if_neg hbad] at hR1
      have HR4 := Lib.hid hR1
      have HGOOD := Lib.hid hgood
      clear hR1 HR3 hbad hgood
      obtain ⟨wb, rfl⟩ : ∃ wx : World, wx = wc := ⟨_, rfl⟩
      go_wp2_with fail
      go_cut [44] (fun v wx => v = .bool false ∧ Ext wb wx)
      case first =>
        by_cases b1 : sx.length = 1
        · have e1 : ((sx.length : Int) == 1) = true := by simp; omega
          by_cases b2 : nx.length = 1
          · have e2 : ((nx.length : Int) != 1) = false := by simp; omega
            clear b1 b2
            go_quiet (fail)
            go_wp2_with fail
            go_meet
            case rel => exact ⟨rfl, (Ext.refl _).drewN _⟩
          · have e2 : ((nx.length : Int) != 1) = true := by simp; omega
            have e3 : ((nx.length : Int) != sc0) = false := by
              rcases HGOOD.out b1 with h | h
              · exact absurd h b2
              · simp [h]
            clear b1 b2
            go_quiet (fail)
            go_wp2_with fail
            go_meet
            case rel => exact ⟨rfl, (Ext.refl _).drewN _⟩
        · have e1 : ((sx.length : Int) == 1) = false := by simp; omega
          clear b1
          go_quiet (fail)
          go_wp2_with fail
          go_meet
          case rel => exact ⟨rfl, (Ext.refl _).drewN _⟩
      case rest =>
        obtain ⟨rfl, hEx⟩ := hcut
        obtain ⟨wd, rfl⟩ : ∃ wx : World, wx = wc := ⟨_, rfl⟩
        have hEw2 := hEw.trans hEx
        replace hB1 := hB1.ext hEx
        replace hB2 := hB2.ext hEx
        replace hB3 := hB3.ext hEx
        have HIS3 := Lib.hid (HIS2.out.ext hEx)
        have as1 : wd.cell? ⟨bs, os, none⟩ = some (.int .i64 sc0) := hEx.cell as0
        clear s0 s1 s2 s3 t0 t1 t2 t3 x0 x1 x2 x3 y0 y1 y2 y3
        have hltd := hEx.lt
        clear as0 hEw hEx HIS2
        obtain ⟨hdr, hd8, hds⟩ := decS_right (right_parts HRY.out).2.2.1 (right_parts HRY.out).2.1
        rw [HSC.out] at hdr hd8 hds
        obtain ⟨hsz, hs0, hs1, ht0, ht1⟩ := size_cons hdr hd8
        have hny := ((right_parts HRY.out).2.2.2.1 (by omega)).2
        rw [← hds, hsz] at hny
        obtain ⟨st, hst⟩ : ∃ st : Nat, shapeSize stl = st := ⟨(shapeSize stl).toNat, by omega⟩
        obtain ⟨cn, hcn⟩ : ∃ cn : Nat, sc0 = cn := ⟨sc0.toNat, by omega⟩
        subst hcn
        have hR5 := HR4.out
        rw [hst] at hny ht0 ht1 hR5
        simp only [Int.toNat_natCast] at hR5
        have HR5 := Lib.hid hR5
        have hnyl : ny.length = cn * st := by
          have h := hny
          rw [← Int.natCast_mul] at h
          omega
        have hnx0 : 0 < cn → 0 < nx.length := fun h => by
          by_cases b1 : sx.length = 1
          · rcases HGOOD.out b1 with h2 | h2 <;> omega
          · have hs : sx = [] := List.eq_nil_of_length_eq_zero (by omega)
            have h2 := ((right_parts HRX.out).2.2.2.1 (by omega)).2
            rw [hs, show shapeSize [] = 1 by decide] at h2
            omega
        have HNY0 := Lib.hid hnyl
        have HNX0 := Lib.hid hnx0
        have HNL : ny.length ≤ 65536 ∧ nx.length ≤ 65536 := by
          have h1 := ((right_parts HRY.out).2.2.2.1 (by omega)).2
          have h2 := ((right_parts HRX.out).2.2.2.1 (by omega)).2
          have h3 := shapeSize_hi sx
          have h4 := shapeSize_hi sy
          omega
        have HST := Lib.hid hst
        have hl9 : stl.length ≤ 7 := by simp at hd8; omega
        clear hdr hd8 hds hsz hny hR5 HR4 hnyl hnx0 hst HGOOD HSC
        obtain ⟨n, hn⟩ : ∃ n, n = (((cn : Int) :: stl).length) := ⟨_, rfl⟩
        rw [← hn]
        rw [← hn] at k1 k3
        have hn1 : n = stl.length + 1 := by rw [hn]; simp
        have hrun : ∀ wq : World, (Instr.sliceAt 23 (.slice (some ⟨bs, os, none⟩) n cs) (some (.int .i64 1)) none none).run Try.prog wq = .ok (.slice (cutAt (some ⟨bs, os, none⟩) 1 cs 1) stl.length (cs - 1)) wq := fun wq => by
          have := slice_l (some ⟨bs, os, none⟩) n cs wq 1 (by omega)
          rw [show n - 1 = stl.length by omega] at this
          exact this
        have hit := (HIS3.out).cut (n := stl.length) 1 cs (by simp; omega)
        rw [show (List.drop 1 ((cn : Int) :: stl)).take stl.length = stl by simp] at hit
        generalize cutAt (some ⟨bs, os, none⟩) 1 cs 1 = pt at hrun hit
        have HT := Lib.hid hit
        have hn0 : 0 < n := by omega
        clear hit hn hn1
        go_wp2_with fail
        refine (clone_ints (fun q => G q ∨ w2.heap.size ≤ q) pt (cs - 1) stl wd HT.out (by unfold lenMax; omega)).mono ?_
        rintro e w3 ⟨v, rfl, hO, hE3⟩
        obtain ⟨p8, c8, rfl, ⟨l1, l2, l3⟩, hi8⟩ := hO.ints
        replace hB1 := hB1.ext hE3
        replace hB2 := hB2.ext hE3
        replace hB3 := hB3.ext hE3
        have hlt3 := hE3.lt
        have hEw3 := hEw2.trans hE3
        have hw3 : w.heap.size ≤ w3.heap.size := hEw3.lt
        go_wp2_with fail
        have g2 := box_new w3 (.int .i64 1) (.slice p8 stl.length c8) (.slice none 0 0) (.slice none 0 0)
        have hEa : Ext w3 (w3.alloc (.cells #[.int .i64 1, .slice p8 stl.length c8, .slice none 0 0, .slice none 0 0] 26)) := (Ext.refl w3).alloc _
        generalize w3.alloc (.cells #[.int .i64 1, .slice p8 stl.length c8, .slice none 0 0, .slice none 0 0] 26) = w4 at g2 hEa ⊢
        have g1 := hEw3.trans hEa
        replace hB1 := hB1.ext hEa
        replace hB2 := hB2.ext hEa
        replace hB3 := hB3.ext hEa
        have hi4 := hi8.mono (G := fun q => wd.heap.size ≤ q ∧ q < w3.heap.size) (w' := w4) (fun q hq hlt => ⟨⟨hq.1, hlt⟩, hEa.block hlt⟩)
        have HI4 := Lib.hid hi4
        have as4 := hEa.cell (hE3.cell as1)
        refine (size_any (fun q => G q ∨ w2.heap.size ≤ q) pt (cs - 1) stl w4 ((HT.out.ext hE3).ext hEa) (by unfold lenMax; omega)).mono ?_
        rintro e w4' ⟨rfl, rfl⟩
        rw [HST.out]
        have hlt4 := g2.lt
        have HB1 := Lib.hid hB1
        have HB2 := Lib.hid hB2
        have HB3 := Lib.hid hB3
        have HG1 := Lib.hid g1
        have HAS := Lib.hid as4
        have hbw : bs < w4.heap.size := World.block_lt_of_cell? w4 ⟨bs, os, none⟩ as4
        have HM0 := Lib.hid (MkB.fresh (X := fun b => b < w4.heap.size ∧ w.heap.size ≤ b) g1 hw3 g2 ⟨hlt4, hw3⟩ (fun x hx => hx.1))
        have hne3 : bs ≠ w3.heap.size := by
          have := World.block_lt_of_cell? wd ⟨bs, os, none⟩ as1
          have : bs < wd.heap.size := this
          omega
        have hltB : w.heap.size + 1 + 1 < w3.heap.size := by have := hlt2; omega
        clear hi8 hi4 hO hE3 hEa hEw3 hEw2 g2 g1 hB1 hB2 hB3 as4 as1 hrun
        go_wp2_with fail
        go_loopw [54] (fun iv wr => ∃ (a : Nat) (v2 : Value) (nn : List Int), a ≤ st ∧ iv = .int .i64 a ∧ decGo nx ny st cn (st - a) a nn = decGo nx ny st cn st 0 [] ∧ nn.length = a ∧ MkB w wr (fun b => b < w4.heap.size ∧ w.heap.size ≤ b) w3.heap.size 1 (.slice p8 stl.length c8) v2 (.slice none 0 0) nn [] ∧ (∀ q, q < w4.heap.size → q ≠ w3.heap.size → wr.heap[q]? = w4.heap[q]?)) (fun iv _ => st - (intOf iv).toNat)
        case atStart => exact ⟨0, _, _, Nat.zero_le _, rfl, rfl, rfl, HM0.out, fun _ _ _ => rfl⟩
        case round =>
          obtain ⟨a, v2, nn, ha, rfl, hgo, hnl, hM, hkeep⟩ := hrel
          have HGO := Lib.hid hgo
          have HK := Lib.hid hkeep
          have hql : ∀ q, q < w4.heap.size → q < wr.heap.size := fun q hq => by
            by_cases h : w.heap.size ≤ q
            · exact hM.xl q ⟨hq, h⟩
            · have := hM.ext.lt; omega
          have HQL := Lib.hid hql
          have HNN := Lib.hid hnl
          clear hgo hkeep HM0 hql hnl
          have hB1 := HB1.out.kept (HK.out w.heap.size (by omega) (by omega))
          have hB2 := HB2.out.kept (HK.out (w.heap.size + 1) (by omega) (by omega))
          have hB3 := HB3.out.kept (HK.out (w.heap.size + 1 + 1) (by omega) (by omega))
          by_cases hlt : a < st
          · have has := (World.cell?_of_block (w := w4) (w' := wr) (a := ⟨bs, os, none⟩) (HK.out bs hbw hne3)).trans HAS.out
            obtain ⟨m, hm⟩ : ∃ m, st - a = m + 1 := ⟨st - a - 1, by omega⟩
            have hgo := HGO.out
            rw [hm, decGo] at hgo
            have hvb := valGo_num nx ny a st cn 0 0 ⟨by decide, by decide⟩
            have hcall : ∀ n : Nat, Calls Try.prog 63 #[.slice q2 nx.length m2, .slice r2 ny.length n2, .int .i64 a, .int .i64 st, .int .i64 cn] (wr.drewN n) fun e w'' => e = .returned (.tuple #[.int .i64 (valGo nx ny a st cn 0 0).1, .int .i64 (valGo nx ny a st cn 0 0).2]) ∧ ∃ m, w'' = wr.drewN m := fun n =>
              (value_any F G q2 r2 m2 n2 nx ny a st cn (wr.drewN n) ((HNX.out.ext hM.ext).ext ((Ext.refl _).drewN n)) ((HNY.out.ext hM.ext).ext ((Ext.refl _).drewN n)) (by unfold lenMax; omega) (by unfold lenMax; omega) (right_ints HRX.out) (right_ints HRY.out) (fun i hi => by
                rw [HNY0.out]
                have := Nat.mul_le_mul_right st (show i + 1 ≤ cn from hi)
                rw [Nat.succ_mul] at this
                omega) HNX0.out (by unfold lenMax; omega) (by unfold lenMax; omega) (by unfold lenMax; omega)).mono fun _ _ ⟨h1, h2⟩ => ⟨h1, n, h2.symm⟩
            generalize valGo nx ny a st cn 0 0 = vv at hgo hvb hcall
            obtain ⟨vv, ee⟩ := vv
            have HCALL := Lib.hid hcall
            have hvb1 : -9223372036854775808 ≤ vv ∧ vv ≤ 9223372036854775807 := ⟨by have := hvb.1; omega, by have := hvb.2; omega⟩
            have HMQ := Lib.hid (show st - (a + 1) = m by omega)
            clear hcall hvb hm
            obtain ⟨s0, s1, s2, s3⟩ := hB1.cell
            obtain ⟨t0, t1, t2, t3⟩ := hB2.cell
            by_cases hee : ee = 0
            · subst hee
              have HGO2 := Lib.hid (show decGo nx ny st cn m (a + 1) (nn ++ [vv]) = decGo nx ny st cn st 0 [] by rw [← hgo]; simp)
              clear hgo
              go_wp2_with fail
              go_quiet ((go_at_call 63; exact HCALL.out _))
              have hM2 := hM.next ((Ext.refl wr).drewN nq)
              have hkeep2 : ∀ q, q < w4.heap.size → q ≠ w3.heap.size → (wr.drewN nq).heap[q]? = w4.heap[q]? := fun q h1 h2 => (((Ext.refl wr).drewN nq).block (HQL.out q h1)).trans (HK.out q h1 h2)
              have HK2 := Lib.hid hkeep2
              have HQL2 : Hid (∀ q, q < w4.heap.size → q < (wr.drewN nq).heap.size) := fun q h1 => Nat.lt_of_lt_of_le (HQL.out q h1) ((Ext.refl wr).drewN nq).lt
              clear hkeep2 hM HCALL has hB1 hB2 hB3 s0 s1 s2 s3 t0 t1 t2 t3 HK HQL
              obtain ⟨wq, hwq⟩ : ∃ wx : World, wx = wr.drewN nq := ⟨_, rfl⟩
              rw [← hwq] at hM2 HK2 HQL2 ⊢
              clear hwq
              have hnlen : nn.length < 17592186044416 := by rw [HNN.out]; omega
              obtain ⟨pv, cv, rfl, _, _⟩ := hM2.on.ints
              obtain ⟨t0, t1, t2, t3⟩ := hM2.box.cell
              have hEn : Ext wq (wq.alloc (.cells #[.int .i64 vv] 3)) := (Ext.refl _).alloc _
              have hnc : (wq.alloc (.cells #[.int .i64 vv] 3)).cell? ⟨wq.heap.size, 0, none⟩ = some (.int .i64 vv) := by simp
              have hM7 := hM2.next hEn
              have HM7 := Lib.hid hM7
              have HEN := Lib.hid hEn
              clear hM7 hEn hM2
              go_wp2_with (at_builtin; refine wpList_append_int rfl _ _ rfl w.heap.size _ (.slice pv nn.length cv) nn.length nn vv rfl HM7.out.on ⟨wq.heap.size, 0, none⟩ 1 rfl hnc HM7.out.xl2 hvb1 (by omega) HM7.out.ext.lt ?_)
              intro g cap w8 hon8 hgrow hat8 _ _
              obtain ⟨q1, q2, q3⟩ := HM7.out.grownN hgrow
              clear t0 t1 t2 t3 hnc
              obtain ⟨_, _, t2, _⟩ := q2.cell
              have tf := q2.free 2
              obtain ⟨hM8, hfar⟩ := HM7.out.storedN (n' := nn ++ [vv]) hgrow (by simp) hon8 (by simpa using hat8)
              have HM8 := Lib.hid hM8
              have HFAR := Lib.hid hfar
              clear HM7 hon8 hgrow hat8 q1 q2 q3 hM8 hfar
              go_wp2_with fail
              obtain hM8 := HM8.out
              obtain hfar := HFAR.out
              obtain hEn := HEN.out
              clear HM8 HFAR HEN t2 tf
              have hkeep3 : ∀ q, q < w4.heap.size → q ≠ w3.heap.size → (w8.setCell ⟨w3.heap.size, 2, none⟩ (.slice (some ⟨g, 0, none⟩) (nn.length + 1) cap)).heap[q]? = w4.heap[q]? := fun q h1 h2 => by
                by_cases h : w.heap.size ≤ q
                · exact ((hfar q ⟨h1, h⟩ h2).trans (hEn.block (HQL2.out q h1))).trans (HK2.out q h1 h2)
                · exact (hM8.ext.block (by omega)).trans (HG1.out.block (by omega)).symm
              revert hM8 hkeep3
              generalize w8.setCell ⟨w3.heap.size, 2, none⟩ (.slice (some ⟨g, 0, none⟩) (nn.length + 1) cap) = wk
              intro hM8 hkeep3
              clear hfar hEn HK2 HQL2
              (try simp only [Exit.inBlock, Exit.then])
              go_wp2_with fail
              go_roundw
              case rel => exact ⟨a + 1, _, nn ++ [vv], by omega, by go_num, by rw [HMQ.out]; exact HGO2.out, by simp [HNN.out], hM8, hkeep3⟩
              case measure => simp [intOf]; omega
            · have he1 : (ee != 0) = true := by simpa using hee
              have hg2 : decGo nx ny st cn st 0 [] = ([], ee) := by rw [← hgo]; simp [hee]
              have hres := HR5.out
              rw [hg2] at hres
              have HRES := Lib.hid (show res = (Arr.zero, ee) by rw [← hres]; simp [hee])
              clear hgo hg2 hres
              go_wp2_with fail
              go_quiet ((go_at_call 63; exact HCALL.out _))
              have hMe := hM.ext.trans ((Ext.refl wr).drewN nq)
              replace hB3 := hB3.ext ((Ext.refl wr).drewN nq)
              clear HCALL has hB1 hB2 s0 s1 s2 s3 t0 t1 t2 t3 HK HQL hM
              obtain ⟨wq, hwq⟩ : ∃ wx : World, wx = wr.drewN nq := ⟨_, rfl⟩
              rw [← hwq] at hMe hB3 ⊢
              clear hwq
              obtain ⟨x0, x1, x2, x3⟩ := hB3.cell
              have y0 := hB3.free 0
              have y1 := hB3.free 1
              have y2 := hB3.free 2
              have y3 := hB3.free 3
              clear hee
              go_wp2_with fail
              obtain ⟨g1, g2, g3⟩ := hB3.put4 hMe (by omega) (.int .i64 0) (.slice none 0 0) (.slice none 0 0) (.slice none 0 0)
              revert g1 g2 g3
              generalize ((((wq.setCell ⟨w.heap.size + 1 + 1, 0, none⟩ (.int .i64 0)).setCell ⟨w.heap.size + 1 + 1, 1, none⟩ (.slice none 0 0)).setCell ⟨w.heap.size + 1 + 1, 2, none⟩ (.slice none 0 0)).setCell ⟨w.heap.size + 1 + 1, 3, none⟩ (.slice none 0 0)) = w9
              intro g1 g2 g3
              obtain ⟨z0, z1, z2, z3⟩ := g2.cell
              refine bodyPost_ret (v := .tuple #[.agg #[(.int .i64 0), (.slice none 0 0), (.slice none 0 0), (.slice none 0 0)], .int .i64 ee]) ?_ rfl ⟨_, _, _, _, by rw [HRES.out], by rw [HRES.out]; exact Arr.zero_at _ _, g1⟩
              simp [results, Try.results19, go_sem, z0, z1, z2, z3]
          · have hae : a = st := by omega
            subst hae
            have hgo := HGO.out
            rw [Nat.sub_self, decGo] at hgo
            have hres := HR5.out
            rw [← hgo] at hres
            have HRES := Lib.hid (show res = (.mk 1 stl nn [], 0) by rw [← hres]; simp)
            clear hgo hres
            have hiw := HI4.out.mono (G := fun q => w.heap.size + 1 + 1 < q ∧ q < w3.heap.size) (w' := wr) (fun q hq hlt => ⟨⟨by omega, hq.2⟩, HK.out q (by omega) (by omega)⟩)
            have hA := MkB.arr (G := fun q => w.heap.size + 1 + 1 < q ∧ q < w3.heap.size) hM (by omega) ⟨p8, c8, rfl, ⟨l1, l2, l3⟩, hiw⟩ (by simp)
            obtain ⟨p9, c9, rfl, _, _⟩ := hM.on.ints
            obtain ⟨ob0, ob1, ob2, ob3⟩ := hM.box.cell
            obtain ⟨x0, x1, x2, x3⟩ := hB3.cell
            have y0 := hB3.free 0
            have y1 := hB3.free 1
            have y2 := hB3.free 2
            have y3 := hB3.free 3
            have hEM := hM.ext
            have HAA := Lib.hid hA
            have HB9 := Lib.hid hB3
            clear hM hiw hA hB3 hB1 hB2 HK HQL
            go_wp2_with fail
            obtain ⟨g1, g2, g3⟩ := HB9.out.put4 hEM (by omega) (.int .i64 1) (.slice p8 stl.length c8) (.slice p9 nn.length c9) (.slice none 0 0)
            revert g1 g2 g3
            generalize ((((wr.setCell ⟨w.heap.size + 1 + 1, 0, none⟩ (.int .i64 1)).setCell ⟨w.heap.size + 1 + 1, 1, none⟩ (.slice p8 stl.length c8)).setCell ⟨w.heap.size + 1 + 1, 2, none⟩ (.slice p9 nn.length c9)).setCell ⟨w.heap.size + 1 + 1, 3, none⟩ (.slice none 0 0)) = w9
            intro g1 g2 g3
            obtain ⟨z0, z1, z2, z3⟩ := g2.cell
            have hA9 := ArrAt.mono (G := fun b => w.heap.size ≤ b) (w' := w9) (fun b hb _ => ⟨by rcases hb with hb | hb <;> omega, g3 b (by rcases hb with hb | hb; have := hb.2; omega; omega)⟩) _ _ _ _ _ HAA.out
            refine bodyPost_ret (v := .tuple #[.agg #[(.int .i64 1), (.slice p8 stl.length c8), (.slice p9 nn.length c9), (.slice none 0 0)], .int .i64 0]) ?_ rfl ⟨_, _, _, _, by rw [HRES.out], by rw [HRES.out]; exact hA9, g1⟩
            simp [results, Try.results19, go_sem, z0, z1, z2, z3]

end Go.Proofs.Ytmpjnjhiklaofaa
