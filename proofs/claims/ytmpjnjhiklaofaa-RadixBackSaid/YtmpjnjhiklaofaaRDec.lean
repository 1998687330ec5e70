/-
  THE WALK of arraylangref27.Decode. (Printed by gen_rdec.py.)
-/
import Derived.Test.YtmpjnjhiklaofaaDec
import Derived.Test.YtmpjnjhiklaofaaChain2
namespace Go.Proofs.Ytmpjnjhiklaofaa
set_option linter.unusedSimpArgs false
set_option linter.unusedVariables false
open Go.RowKit



set_option maxRecDepth 1000000 in
set_option maxHeartbeats 16000000 in
theorem rdecode_any (F G : Nat → Prop) (x y : Arr) (c0 c1 c2 c3 d0 d1 d2 d3 : Value) (w : World) (hx : ArrAt F w x c0 c1 c2 c3) (hy : ArrAt G w y d0 d1 d2 d3) :
    Calls Try.prog 20 #[.agg #[c0, c1, c2, c3], .agg #[d0, d1, d2, d3]] w fun e w' =>
      ∃ e0 e1 e2 e3, e = .returned (.tuple #[.agg #[e0, e1, e2, e3], .int .i64 (decV x y).2]) ∧ ArrAt (fun b => w.heap.size ≤ b) w' (decV x y).1 e0 e1 e2 e3 ∧ Ext w w' := by
  obtain ⟨kx, sx, nx, ix⟩ := x
  obtain ⟨ky, sy, ny, iy⟩ := y
  have hx' := hx
  have hy' := hy
  unfold ArrAt at hx' hy'
  obtain ⟨rfl, hkx, ⟨q1, m1, rfl, ⟨o1, o1', o1''⟩, i1⟩, ⟨q2, m2, rfl, ⟨o2, o2', o2''⟩, i2⟩, ⟨q3, m3, rfl, ⟨o3, o3', o3''⟩, i3⟩⟩ := hx'
  obtain ⟨rfl, hky, ⟨r1, n1, rfl, ⟨p1, p1', p1''⟩, j1⟩, ⟨r2, n2, rfl, ⟨p2, p2', p2''⟩, j2⟩, ⟨r3, n3, rfl, ⟨p3, p3', p3''⟩, j3⟩⟩ := hy'
  have HX := Lib.hid hx
  have HY := Lib.hid hy
  have HNX := Lib.hid i2
  have HNY := Lib.hid j2
  have HSX := Lib.hid i1
  have HSY := Lib.hid j1
  clear hx hy i1 i2 i3 j1 j2 j3
  generalize hres : decV (.mk kx sx nx ix) (.mk ky sy ny iy) = res
  unfold decV at hres
  have HR := Lib.hid hres
  clear hres
  go_enter Try.func20, Try.ntmps20
  go_wp2_with fail
  have hE0 : Ext w (((w.alloc (.cells #[.int .i64 kx, .slice q1 sx.length m1, .slice q2 nx.length m2, .slice q3 ix.length m3] 26)).alloc (.cells #[.int .i64 ky, .slice r1 sy.length n1, .slice r2 ny.length n2, .slice r3 iy.length n3] 26)).alloc (.cells #[.int .i64 0, .slice none 0 0, .slice none 0 0, .slice none 0 0] 26)) := (((Ext.refl _).alloc _).alloc _).alloc _
  have hB1 := ((box_new w (.int .i64 kx) (.slice q1 sx.length m1) (.slice q2 nx.length m2) (.slice q3 ix.length m3)).ext ((Ext.refl _).alloc (.cells #[.int .i64 ky, .slice r1 sy.length n1, .slice r2 ny.length n2, .slice r3 iy.length n3] 26))).ext ((Ext.refl _).alloc (.cells #[.int .i64 0, .slice none 0 0, .slice none 0 0, .slice none 0 0] 26))
  have hB2 := (box_new (w.alloc (.cells #[.int .i64 kx, .slice q1 sx.length m1, .slice q2 nx.length m2, .slice q3 ix.length m3] 26)) (.int .i64 ky) (.slice r1 sy.length n1) (.slice r2 ny.length n2) (.slice r3 iy.length n3)).ext ((Ext.refl _).alloc (.cells #[.int .i64 0, .slice none 0 0, .slice none 0 0, .slice none 0 0] 26))
  have hB3 := box_new ((w.alloc (.cells #[.int .i64 kx, .slice q1 sx.length m1, .slice q2 nx.length m2, .slice q3 ix.length m3] 26)).alloc (.cells #[.int .i64 ky, .slice r1 sy.length n1, .slice r2 ny.length n2, .slice r3 iy.length n3] 26)) (.int .i64 0) (.slice none 0 0) (.slice none 0 0) (.slice none 0 0)
  rw [World.size_alloc] at hB2
  rw [World.size_alloc, World.size_alloc] at hB3
  generalize ((w.alloc (.cells #[.int .i64 kx, .slice q1 sx.length m1, .slice q2 nx.length m2, .slice q3 ix.length m3] 26)).alloc (.cells #[.int .i64 ky, .slice r1 sy.length n1, .slice r2 ny.length n2, .slice r3 iy.length n3] 26)).alloc (.cells #[.int .i64 0, .slice none 0 0, .slice none 0 0, .slice none 0 0] 26) = w1 at hE0 hB1 hB2 hB3 ⊢
  refine (radCommon_any F G _ _ _ _ _ _ _ _ _ _ w1 (HX.out.ext hE0) (HY.out.ext hE0)).mono ?_
  rintro e w2 ⟨rfl, hE1⟩
  replace hB1 := hB1.ext hE1
  replace hB2 := hB2.ext hE1
  replace hB3 := hB3.ext hE1
  have hE2 := hE0.trans hE1
  clear hE0 hE1
  have hlt2 := hB3.lt
  obtain ⟨s0, s1, s2, s3⟩ := hB1.cell
  obtain ⟨t0, t1, t2, t3⟩ := hB2.cell
  obtain ⟨x0, x1, x2, x3⟩ := hB3.cell
  have y0 := hB3.free 0
  have y1 := hB3.free 1
  have y2 := hB3.free 2
  have y3 := hB3.free 3
  by_cases hw : radErr (.mk kx sx nx ix) (.mk ky sy ny iy) = 0
  rotate_left
  · have hR1 := HR.out
    rw [if_pos hw] at hR1
    subst hR1
    generalize hrv : radErr (.mk kx sx nx ix) (.mk ky sy ny iy) = rv at *
    have HRV := Lib.hid hrv
    clear hrv HR
    go_wp2_with fail
    obtain ⟨g1, g2, g3⟩ := hB3.put4 hE2 (by omega) (.int .i64 0) (.slice none 0 0) (.slice none 0 0) (.slice none 0 0)
    revert g1 g2 g3
    generalize ((((w2.setCell ⟨w.heap.size + 1 + 1, 0, none⟩ (.int .i64 0)).setCell ⟨w.heap.size + 1 + 1, 1, none⟩ (.slice none 0 0)).setCell ⟨w.heap.size + 1 + 1, 2, none⟩ (.slice none 0 0)).setCell ⟨w.heap.size + 1 + 1, 3, none⟩ (.slice none 0 0)) = w9
    intro g1 g2 g3
    obtain ⟨z0, z1, z2, z3⟩ := g2.cell
    refine bodyPost_ret (v := .tuple #[.agg #[(.int .i64 0), (.slice none 0 0), (.slice none 0 0), (.slice none 0 0)], .int .i64 rv]) ?_ rfl ⟨_, _, _, _, by rw [HRV.out], Arr.zero_at _ _, g1⟩
    simp [results, Try.results20, go_sem, z0, z1, z2, z3]
  have hR1 := HR.out
  rw [if_neg (by simp [hw])] at hR1
  have HR1 := Lib.hid hR1
  have hparts := rad_parts hw
  rw [hw]
  clear hR1 HR hw
  obtain ⟨hrx, hry, rfl, rfl, hsl⟩ := hparts
  have HRX := Lib.hid hrx
  have HRY := Lib.hid hry
  clear hrx hry
  go_upto_if 27 with fail
  go_cut [7] (fun sv wx => ∃ (p : Option Addr) (c : Nat), sv = .slice p (decS sy).length c ∧ SlOk (decS sy).length c ∧ Hid (IntsAt (fun q => G q ∨ w2.heap.size ≤ q) wx p (decS sy)) ∧ Ext w2 wx)
  case first =>
    by_cases h0 : sy.length = 0
    · have hd : decS sy = [1] := by unfold decS; rw [if_pos h0]
      have HD := Lib.hid hd
      clear hd
      go_wp2_with fail
      go_meet
      case rel =>
        rw [HD.out]
        exact ⟨_, _, rfl, ⟨by simp, by simp, by simp⟩, (rowI_new' w2 [1]).ints (fun x hx => by simp at hx; subst hx; decide) |>.mono (fun b hb _ => ⟨.inr (by have : b = w2.heap.size := hb; omega), rfl⟩), (Ext.refl _).alloc _⟩
    · have hd : decS sy = sy := by unfold decS; rw [if_neg h0]
      have HD := Lib.hid hd
      have h0' : ((sy.length : Int) == 0) = false := beq_eq_false_iff_ne.2 (by omega)
      clear hd
      go_wp2_with fail
      go_meet
      case rel =>
        rw [HD.out]
        exact ⟨_, _, rfl, ⟨p1, p1', p1''⟩, (HSY.out.ext hE2).mono (fun b hb _ => ⟨.inl hb, rfl⟩), Ext.refl _⟩
  case rest =>
    obtain ⟨ps, cs, rfl, ⟨k1, k2, k3⟩, HIS, hEc⟩ := hcut
    replace hB1 := hB1.ext hEc
    replace hB2 := hB2.ext hEc
    replace hB3 := hB3.ext hEc
    have hEw := hE2.trans hEc
    have hltc := hEc.lt
    obtain ⟨sc0, stl, hsc⟩ : ∃ s0 tl, decS sy = s0 :: tl := by
      unfold decS
      split
      · exact ⟨1, [], rfl⟩
      · rename_i h; cases sy with
        | nil => simp at h
        | cons a t => exact ⟨a, t, rfl⟩
    have hR1 := HR1.out
    rw [hsc] at hR1 k1 k3
    have HR2 := Lib.hid hR1
    have HIS2 := Lib.hid (show IntsAt (fun q => G q ∨ w2.heap.size ≤ q) wc ps (sc0 :: stl) by rw [← hsc]; exact HIS.out)
    rw [hsc]
    have HSC := Lib.hid hsc
    clear hsc hR1 HR1 HIS
    obtain ⟨bs, os, rfl, as0, _, _⟩ := HIS2.out.get (show 0 < (sc0 :: stl).length by simp)
    clear s0 s1 s2 s3 t0 t1 t2 t3 x0 x1 x2 x3 y0 y1 y2 y3
    obtain ⟨s0, s1, s2, s3⟩ := hB1.cell
    obtain ⟨t0, t1, t2, t3⟩ := hB2.cell
    obtain ⟨x0, x1, x2, x3⟩ := hB3.cell
    have y0 := hB3.free 0
    have y1 := hB3.free 1
    have y2 := hB3.free 2
    have y3 := hB3.free 3
    have as0 : wc.cell? ⟨bs, os, none⟩ = some (.int .i64 sc0) := by simpa using as0
    have HR3 : Hid ((if sx.length = 1 ∧ nx.length ≠ 1 ∧ (nx.length : Int) ≠ sc0 then (Arr.zero, 16) else if (decGo nx ny (shapeSize stl).toNat sc0.toNat (shapeSize stl).toNat 0 []).2 ≠ 0 then (Arr.zero, (decGo nx ny (shapeSize stl).toNat sc0.toNat (shapeSize stl).toNat 0 []).2) else (.mk 1 stl (decGo nx ny (shapeSize stl).toNat sc0.toNat (shapeSize stl).toNat 0 []).1 [], 0)) = res) := HR2.out
    clear HR2
    have hsx0 : sx.length = 1 → ∃ bx ox, q1 = some ⟨bx, ox, none⟩ ∧ w.cell? ⟨bx, ox, none⟩ = some (.int .i64 (nx.length : Int)) := fun h1 => by
      obtain ⟨b, o, e, hc, _, _⟩ := HSX.out.get (show 0 < sx.length by omega)
      obtain ⟨d, hd⟩ := List.length_eq_one_iff.1 h1
      have h2 := ((right_parts HRX.out).2.2.2.1 (by omega)).2
      have h3 := (right_parts HRX.out).2.2.1
      rw [hd] at h2 h3 hc
      have h4 := (size_cons h3 (by simp)).1
      rw [h4, show shapeSize [] = 1 by decide] at h2
      have h5 : [d].getD 0 0 = (nx.length : Int) := by simp; omega
      rw [h5] at hc
      exact ⟨b, o, e, by simpa using hc⟩
    have HSX0 := Lib.hid hsx0
    clear hsx0
    by_cases hbad : sx.length = 1 ∧ nx.length ≠ 1 ∧ (nx.length : Int) ≠ sc0
    · have hR1 := HR3.out
      rw [if_pos hbad] at hR1
      subst hR1
      obtain ⟨b1, b2, b3⟩ := hbad
      have e1 : ((sx.length : Int) == 1) = true := by simp; omega
      have e2 : ((nx.length : Int) != 1) = true := by simp; omega
      have e3 : ((nx.length : Int) != sc0) = true := by simpa using b3
      obtain ⟨bx, ox, rfl, asx⟩ := HSX0.out b1
      replace asx := hEw.cell asx
      clear b3 HR3
      go_wp2_with fail
      go_quiet (fail)
      simp only [Exit.then]
      have hEw2 : Ext w (wc.drewN nq) := hEw.drewN nq
      replace hB3 := hB3.ext ((Ext.refl wc).drewN nq)
      clear as0 e1 e2 e3 b1 b2 asx
      clear s0 s1 s2 s3 t0 t1 t2 t3 x0 x1 x2 x3 y0 y1 y2 y3
      obtain ⟨x0, x1, x2, x3⟩ := hB3.cell
      have y0 := hB3.free 0
      have y1 := hB3.free 1
      have y2 := hB3.free 2
      have y3 := hB3.free 3
      generalize wc.drewN nq = wd at *
      go_wp2_with fail
      obtain ⟨g1, g2, g3⟩ := hB3.put4 hEw2 (by omega) (.int .i64 0) (.slice none 0 0) (.slice none 0 0) (.slice none 0 0)
      revert g1 g2 g3
      generalize ((((wd.setCell ⟨w.heap.size + 1 + 1, 0, none⟩ (.int .i64 0)).setCell ⟨w.heap.size + 1 + 1, 1, none⟩ (.slice none 0 0)).setCell ⟨w.heap.size + 1 + 1, 2, none⟩ (.slice none 0 0)).setCell ⟨w.heap.size + 1 + 1, 3, none⟩ (.slice none 0 0)) = w9
      intro g1 g2 g3
      obtain ⟨z0, z1, z2, z3⟩ := g2.cell
      refine bodyPost_ret (v := .tuple #[.agg #[(.int .i64 0), (.slice none 0 0), (.slice none 0 0), (.slice none 0 0)], .int .i64 16]) ?_ rfl ⟨_, _, _, _, rfl, Arr.zero_at _ _, g1⟩
      simp [results, Try.results20, go_sem, z0, z1, z2, z3]
    · have hgood : sx.length = 1 → nx.length = 1 ∨ (nx.length : Int) = sc0 := fun h1 => by
        rcases Classical.em (nx.length = 1) with h | h
        · exact .inl h
        · exact .inr (Classical.byContradiction fun h3 => hbad ⟨h1, h, h3⟩)
      have hR1 := HR3.out
      rw [if_neg hbad] at hR1
      have HR4 := Lib.hid hR1
      have HGOOD := Lib.hid hgood
      clear hR1 HR3 hbad hgood
      obtain ⟨wb, rfl⟩ : ∃ wx : World, wx = wc := ⟨_, rfl⟩
      go_wp2_with fail
      go_cut [49] (fun v wx => v = .bool false ∧ Ext wb wx)
      case first =>
        by_cases b1 : sx.length = 1
        · have e1 : ((sx.length : Int) == 1) = true := by simp; omega
          obtain ⟨bx, ox, rfl, asx⟩ := HSX0.out b1
          replace asx := (hEw).cell asx
          have hb1 : 0 < sx.length := by omega
          by_cases b2 : nx.length = 1
          · have e2 : ((nx.length : Int) != 1) = false := by simp; omega
            clear b1 b2
            go_quiet (fail)
            go_wp2_with fail
            go_meet
            case rel => exact ⟨rfl, (Ext.refl _).drewN _⟩
          · have e2 : ((nx.length : Int) != 1) = true := by simp; omega
            have e3 : ((nx.length : Int) != sc0) = false := by
              rcases HGOOD.out b1 with h | h
              · exact absurd h b2
              · simp [h]
            clear b1 b2
            go_quiet (fail)
            go_wp2_with fail
            go_meet
            case rel => exact ⟨rfl, (Ext.refl _).drewN _⟩
        · have e1 : ((sx.length : Int) == 1) = false := by simp; omega
          clear b1
          go_quiet (fail)
          go_wp2_with fail
          go_meet
          case rel => exact ⟨rfl, (Ext.refl _).drewN _⟩
      case rest =>
        obtain ⟨rfl, hEx⟩ := hcut
        obtain ⟨wd, rfl⟩ : ∃ wx : World, wx = wc := ⟨_, rfl⟩
        have hEw2 := hEw.trans hEx
        replace hB1 := hB1.ext hEx
        replace hB2 := hB2.ext hEx
        replace hB3 := hB3.ext hEx
        have HIS3 := Lib.hid (HIS2.out.ext hEx)
        have as1 : wd.cell? ⟨bs, os, none⟩ = some (.int .i64 sc0) := hEx.cell as0
        clear s0 s1 s2 s3 t0 t1 t2 t3 x0 x1 x2 x3 y0 y1 y2 y3
        have hltd := hEx.lt
        clear as0 hEw hEx HIS2
        obtain ⟨hdr, hd8, hds⟩ := decS_right (right_parts HRY.out).2.2.1 (right_parts HRY.out).2.1
        rw [HSC.out] at hdr hd8 hds
        obtain ⟨hsz, hs0, hs1, ht0, ht1⟩ := size_cons hdr hd8
        have hny := ((right_parts HRY.out).2.2.2.1 (by omega)).2
        rw [← hds, hsz] at hny
        obtain ⟨st, hst⟩ : ∃ st : Nat, shapeSize stl = st := ⟨(shapeSize stl).toNat, by omega⟩
        obtain ⟨cn, hcn⟩ : ∃ cn : Nat, sc0 = cn := ⟨sc0.toNat, by omega⟩
        subst hcn
        have hR5 := HR4.out
        rw [hst] at hny ht0 ht1 hR5
        simp only [Int.toNat_natCast] at hR5
        have HR5 := Lib.hid hR5
        have hnyl : ny.length = cn * st := by
          have h := hny
          rw [← Int.natCast_mul] at h
          omega
        have hnx0 : 0 < cn → 0 < nx.length := fun h => by
          by_cases b1 : sx.length = 1
          · rcases HGOOD.out b1 with h2 | h2 <;> omega
          · have hs : sx = [] := List.eq_nil_of_length_eq_zero (by omega)
            have h2 := ((right_parts HRX.out).2.2.2.1 (by omega)).2
            rw [hs, show shapeSize [] = 1 by decide] at h2
            omega
        have HNY0 := Lib.hid hnyl
        have HNX0 := Lib.hid hnx0
        have HNL : ny.length ≤ 65536 ∧ nx.length ≤ 65536 := by
          have h1 := ((right_parts HRY.out).2.2.2.1 (by omega)).2
          have h2 := ((right_parts HRX.out).2.2.2.1 (by omega)).2
          have h3 := shapeSize_hi sx
          have h4 := shapeSize_hi sy
          omega
        have HST := Lib.hid hst
        have hl9 : stl.length ≤ 7 := by simp at hd8; omega
        clear hdr hd8 hds hsz hny hR5 HR4 hnyl hnx0 hst HSC
        obtain ⟨n, hn⟩ : ∃ n, n = (((cn : Int) :: stl).length) := ⟨_, rfl⟩
        rw [← hn]
        rw [← hn] at k1 k3
        have hn1 : n = stl.length + 1 := by rw [hn]; simp
        have hrun : ∀ wq : World, (Instr.sliceAt 23 (.slice (some ⟨bs, os, none⟩) n cs) (some (.int .i64 1)) none none).run Try.prog wq = .ok (.slice (cutAt (some ⟨bs, os, none⟩) 1 cs 1) stl.length (cs - 1)) wq := fun wq => by
          have := slice_l (some ⟨bs, os, none⟩) n cs wq 1 (by omega)
          rw [show n - 1 = stl.length by omega] at this
          exact this
        have hit := (HIS3.out).cut (n := stl.length) 1 cs (by simp; omega)
        rw [show (List.drop 1 ((cn : Int) :: stl)).take stl.length = stl by simp] at hit
        generalize cutAt (some ⟨bs, os, none⟩) 1 cs 1 = pt at hrun hit
        have HT := Lib.hid hit
        have hn0 : 0 < n := by omega
        clear hit hn hn1
        have hrow0 : RowI (wd.alloc (.cells #[] 3)) wd.heap.size [] := rowI_new' wd []
        have HRW := Lib.hid hrow0
        clear hrow0
        go_wp2_with (at_builtin; refine wpList_append_zero rfl _ _ rfl (fun q => G q ∨ w2.heap.size ≤ q) wd.heap.size (fun _ => False) wd.heap.size pt (cs - 1) stl rfl HRW.out (Nat.le_refl _) (fun h => h) rfl (HT.out.ext ((Ext.refl _).alloc _)) (fun _ h => h.elim) (by omega) (by simp) ?_)
        intro v w3 hO hE3'
        have hE3 : Ext wd w3 := ((Ext.refl wd).alloc _).trans hE3'
        clear hE3' HRW
        obtain ⟨p8, c8, rfl, ⟨l1, l2, l3⟩, hi8⟩ := hO.ints
        replace hB1 := hB1.ext hE3
        replace hB2 := hB2.ext hE3
        replace hB3 := hB3.ext hE3
        have hlt3 := hE3.lt
        have hEw3 := hEw2.trans hE3
        have hw3 : w.heap.size ≤ w3.heap.size := hEw3.lt
        go_wp2_with fail
        have g2 := box_new w3 (.int .i64 1) (.slice p8 stl.length c8) (.slice none 0 0) (.slice none 0 0)
        have hEa : Ext w3 (w3.alloc (.cells #[.int .i64 1, .slice p8 stl.length c8, .slice none 0 0, .slice none 0 0] 26)) := (Ext.refl w3).alloc _
        generalize w3.alloc (.cells #[.int .i64 1, .slice p8 stl.length c8, .slice none 0 0, .slice none 0 0] 26) = w4 at g2 hEa ⊢
        have g1 := hEw3.trans hEa
        replace hB1 := hB1.ext hEa
        replace hB2 := hB2.ext hEa
        replace hB3 := hB3.ext hEa
        have hi4 := hi8.mono (G := fun q => wd.heap.size ≤ q ∧ q < w3.heap.size) (w' := w4) (fun q hq hlt => ⟨⟨hq.1, hlt⟩, hEa.block hlt⟩)
        have HI4 := Lib.hid hi4
        have as4 := hEa.cell (hE3.cell as1)
        refine (r2size_any (fun q => wd.heap.size ≤ q ∧ q < w3.heap.size) p8 c8 stl w4 HI4.out (by unfold lenMax; omega)).mono ?_
        rintro e w4' ⟨rfl, rfl⟩
        rw [HST.out]
        have hlt4 := g2.lt
        have HB1 := Lib.hid hB1
        have HB2 := Lib.hid hB2
        have HB3 := Lib.hid hB3
        have HG1 := Lib.hid g1
        have HAS := Lib.hid as4
        have hbw : bs < w4.heap.size := World.block_lt_of_cell? w4 ⟨bs, os, none⟩ as4
        have HM0 := Lib.hid (MkB.fresh (X := fun b => b < w4.heap.size ∧ w.heap.size ≤ b) g1 hw3 g2 ⟨hlt4, hw3⟩ (fun x hx => hx.1))
        have hne3 : bs ≠ w3.heap.size := by
          have := World.block_lt_of_cell? wd ⟨bs, os, none⟩ as1
          have : bs < wd.heap.size := this
          omega
        have hltB : w.heap.size + 1 + 1 < w3.heap.size := by have := hlt2; omega
        clear hi8 hi4 hO hE3 hEa hEw3 hEw2 g2 g1 hB1 hB2 hB3 as4 as1 hrun
        go_wp2_with fail
        go_loopw [10] (fun iv wr => ∃ (a : Nat) (v2 : Value) (nn : List Int), a ≤ st ∧ iv = .int .i64 a ∧ decGo nx ny st cn (st - a) a nn = decGo nx ny st cn st 0 [] ∧ nn.length = a ∧ MkB w wr (fun b => b < w4.heap.size ∧ w.heap.size ≤ b) w3.heap.size 1 (.slice p8 stl.length c8) v2 (.slice none 0 0) nn [] ∧ (∀ q, q < w4.heap.size → q ≠ w3.heap.size → wr.heap[q]? = w4.heap[q]?)) (fun iv _ => st - (intOf iv).toNat)
        case atStart => exact ⟨0, _, _, Nat.zero_le _, rfl, rfl, rfl, HM0.out, fun _ _ _ => rfl⟩
        case round =>
          obtain ⟨a, v2, nn, ha, rfl, hgo, hnl, hM, hkeep⟩ := hrel
          have HGO := Lib.hid hgo
          have HK := Lib.hid hkeep
          have hql : ∀ q, q < w4.heap.size → q < wr.heap.size := fun q hq => by
            by_cases h : w.heap.size ≤ q
            · exact hM.xl q ⟨hq, h⟩
            · have := hM.ext.lt; omega
          have HQL := Lib.hid hql
          have HNN := Lib.hid hnl
          clear hgo hkeep HM0 hql hnl
          have hB1 := HB1.out.kept (HK.out w.heap.size (by omega) (by omega))
          have hB2 := HB2.out.kept (HK.out (w.heap.size + 1) (by omega) (by omega))
          have hB3 := HB3.out.kept (HK.out (w.heap.size + 1 + 1) (by omega) (by omega))
          by_cases hlt : a < st
          · have has := (World.cell?_of_block (w := w4) (w' := wr) (a := ⟨bs, os, none⟩) (HK.out bs hbw hne3)).trans HAS.out
            obtain ⟨m, hm⟩ : ∃ m, st - a = m + 1 := ⟨st - a - 1, by omega⟩
            have hgo := HGO.out
            rw [hm, decGo] at hgo
            have HGO1 := Lib.hid hgo
            have HMQ := Lib.hid (show st - (a + 1) = m by omega)
            have HV0 : Hid (NumB 0) := ⟨by decide, by decide⟩
            have hny1 : ∀ k, k < cn → a + k * st < ny.length := fun k hk => by
              rw [HNY0.out]
              have := Nat.mul_le_mul_right st (show k + 1 ≤ cn from hk)
              rw [Nat.succ_mul] at this
              omega
            have HNY1 := Lib.hid hny1
            clear hgo hm HGO hny1
            obtain ⟨s0, s1, s2, s3⟩ := hB1.cell
            obtain ⟨t0, t1, t2, t3⟩ := hB2.cell
            have HB1r := Lib.hid hB1
            have HB2r := Lib.hid hB2
            have HB3r := Lib.hid hB3
            have HMr := Lib.hid hM
            clear hB1 hB2 hB3 hM
            go_wp2_with fail
            go_loop [11, 12] (fun vv iv => ∃ (k : Nat) (v : Int), k ≤ cn ∧ vv = .int .i64 v ∧ iv = .int .i64 k ∧ Hid (NumB v) ∧ Hid (valGo nx ny a st (cn - k) k v = valGo nx ny a st cn 0 0)) (fun _ iv => cn - (intOf iv).toNat)
            case atStart => exact ⟨0, 0, Nat.zero_le _, rfl, rfl, HV0, Lib.hid (by rw [Nat.sub_zero])⟩
            case round =>
              obtain ⟨k, v, hk, rfl, rfl, HV, HR⟩ := hrel
              clear HV0
              by_cases hkc : k < cn
              · have hkl := HNY1.out k hkc
                have hnx := HNX0.out (by omega)
                have hr := HR.out
                obtain ⟨j, hj⟩ : ∃ j, min k (nx.length - 1) = j := ⟨_, rfl⟩
                obtain ⟨q, hq⟩ : ∃ q, a + k * st = q := ⟨_, rfl⟩
                rw [show cn - k = (cn - (k + 1)) + 1 by omega, valGo, hj, hq] at hr
                rw [hq] at hkl
                have hjl : j < nx.length := by omega
                obtain ⟨b0, o0, e0, a0, _, _⟩ := (HNX.out.ext HMr.out.ext).get (i := 0) hnx
                obtain ⟨b1, o1, e1, a1, _, _⟩ := (HNX.out.ext HMr.out.ext).get hjl
                obtain ⟨b2, o2, e2, a2, _, _⟩ := (HNY.out.ext HMr.out.ext).get hkl
                have hm1 := right_ints HRX.out (nx.getD j 0) (by simp [List.getD, hjl])
                have hm2 := right_ints HRY.out (ny.getD q 0) (by simp [List.getD, hkl])
                have hjk : (nx.length = 1 ∧ j = 0) ∨ (1 < nx.length ∧ j = k ∧ k < nx.length) := by
                  by_cases h1 : nx.length = 1
                  · exact .inl ⟨h1, by omega⟩
                  · have h2 : nx.length = cn := by
                      by_cases b1 : sx.length = 1
                      · rcases HGOOD.out b1 with h3 | h3 <;> omega
                      · have hs : sx = [] := List.eq_nil_of_length_eq_zero (by omega)
                        have h2 := ((right_parts HRX.out).2.2.2.1 (by omega)).2
                        rw [hs, show shapeSize [] = 1 by decide] at h2
                        omega
                    exact .inr ⟨by omega, by omega, by omega⟩
                rw [e0] at e1
                simp only [Option.some.injEq, Addr.mk.injEq, and_true] at e1
                obtain ⟨rfl, rfl⟩ := e1
                obtain ⟨z, hz⟩ : ∃ z, k * st = z := ⟨_, rfl⟩
                have hz' : (k : Int) * (st : Int) = (z : Int) := by rw [← hz]; simp
                have hzq : (z : Int) + (a : Int) = (q : Int) := by omega
                have hzb : z ≤ 17592186044416 := by omega
                have hqb : q < 17592186044416 := by omega
                clear hj hq hz
                have hr0 : nx.getD 0 0 = nx.getD j 0 ∨ (j = k ∧ 1 < nx.length) := by rcases hjk with h | h; left; rw [h.2]; right; exact ⟨h.2.1, h.1⟩
                rw [Nat.add_zero] at a0
                generalize hg0 : nx.getD 0 0 = r0 at *
                generalize nx.getD j 0 = r at *
                generalize ny.getD q 0 = d at *
                clear hg0
                have HRR := Lib.hid hr
                have HM1 := Lib.hid hm1
                have HM2 := Lib.hid hm2
                clear hr hm1 hm2 HR
                subst e0 e2
                go_upto_if 78 with (fail)
                go_cut [13] (fun rv wx => rv = .int .i64 r ∧ wr = wx)
                case first =>
                  rcases hjk with ⟨h1, h2⟩ | ⟨h1, h2, h3⟩
                  · have hrr : r0 = r := hr0.resolve_right (fun h => by omega)
                    subst hrr
                    have hle : (nx.length : Int) ≤ 1 := by omega
                    clear h1 h2 hr0 a1
                    go_wp2_with fail
                    go_meet
                    case rel => exact ⟨rfl, rfl⟩
                  · rw [h2] at a1
                    have hgt : (1 : Int) < (nx.length : Int) := by omega
                    clear h2 hr0
                    go_wp2_with fail
                    go_meet
                    case rel => exact ⟨rfl, rfl⟩
                case rest =>
                  obtain ⟨rfl, rfl⟩ := hcut
                  clear hr0 hjk a0 a1
                  obtain ⟨x0, x1, x2, x3⟩ := HB3r.out.cell
                  have y0 := HB3r.out.free 0
                  have y1 := HB3r.out.free 1
                  have y2 := HB3r.out.free 2
                  have y3 := HB3r.out.free 3
                  have hMe := HMr.out.ext
                  have hB3 := HB3r.out
                  go_wp2_with fail
                  refine (rmul_any v r wr HV.out HM1.out).mono ?_
                  rintro e w' ⟨rfl, rfl⟩
                  by_cases hf : isNum (v * r) = true
                  · have HF : Hid (fitV (v * r) = (v * r, 0)) := by
                      show _ = _
                      unfold fitV; rw [if_pos hf]
                    rw [HF.out]
                    have hr := HRR.out
                    rw [if_pos hf] at hr
                    have HPN := Lib.hid (NumB.of hf)
                    have HRS := Lib.hid hr
                    clear hf HF HRR hr
                    generalize v * r = pz at *
                    go_wp2_with fail
                    refine (radd_any pz d wr HPN.out HM2.out).mono ?_
                    rintro e w' ⟨rfl, rfl⟩
                    by_cases hf : isNum (pz + d) = true
                    · have HF : Hid (fitV (pz + d) = (pz + d, 0)) := by
                        show _ = _
                        unfold fitV; rw [if_pos hf]
                      rw [HF.out]
                      have hr := HRS.out
                      rw [if_pos hf] at hr
                      have HR2 := Lib.hid hr
                      have HQN := Lib.hid (NumB.of hf)
                      clear hf HF hr HRS
                      generalize pz + d = v2' at *
                      go_wp2_with fail
                      go_round
                      case rel => exact ⟨k + 1, v2', by omega, rfl, by go_num, HQN, HR2⟩
                      case measure => simp [intOf]; omega
                    · have HF : Hid (fitV (pz + d) = (0, 19)) := by
                        show _ = _
                        unfold fitV; rw [if_neg hf]
                      rw [HF.out]
                      have hr := HRS.out
                      rw [if_neg hf] at hr
                      clear hf HF HRS
                      have hg2 := HGO1.out
                      rw [← hr] at hg2
                      have hres := HR5.out
                      rw [← hg2] at hres
                      have HRES := Lib.hid (show res = (Arr.zero, 19) by rw [← hres]; simp)
                      clear hg2 hres hr
                      go_wp2_with fail
                      obtain ⟨g1, g2, g3⟩ := hB3.put4 hMe (by omega) (.int .i64 0) (.slice none 0 0) (.slice none 0 0) (.slice none 0 0)
                      revert g1 g2 g3
                      generalize ((((wr.setCell ⟨w.heap.size + 1 + 1, 0, none⟩ (.int .i64 0)).setCell ⟨w.heap.size + 1 + 1, 1, none⟩ (.slice none 0 0)).setCell ⟨w.heap.size + 1 + 1, 2, none⟩ (.slice none 0 0)).setCell ⟨w.heap.size + 1 + 1, 3, none⟩ (.slice none 0 0)) = w9
                      intro g1 g2 g3
                      obtain ⟨z0, z1, z2, z3⟩ := g2.cell
                      refine bodyPost_ret (v := .tuple #[.agg #[(.int .i64 0), (.slice none 0 0), (.slice none 0 0), (.slice none 0 0)], .int .i64 19]) ?_ rfl ⟨_, _, _, _, by rw [HRES.out], by rw [HRES.out]; exact Arr.zero_at _ _, g1⟩
                      simp [results, Try.results20, go_sem, z0, z1, z2, z3]
                  · have HF : Hid (fitV (v * r) = (0, 19)) := by
                      show _ = _
                      unfold fitV; rw [if_neg hf]
                    rw [HF.out]
                    have hr := HRR.out
                    rw [if_neg hf] at hr
                    clear hf HF HRR
                    have hg2 := HGO1.out
                    rw [← hr] at hg2
                    have hres := HR5.out
                    rw [← hg2] at hres
                    have HRES := Lib.hid (show res = (Arr.zero, 19) by rw [← hres]; simp)
                    clear hg2 hres hr
                    go_wp2_with fail
                    obtain ⟨g1, g2, g3⟩ := hB3.put4 hMe (by omega) (.int .i64 0) (.slice none 0 0) (.slice none 0 0) (.slice none 0 0)
                    revert g1 g2 g3
                    generalize ((((wr.setCell ⟨w.heap.size + 1 + 1, 0, none⟩ (.int .i64 0)).setCell ⟨w.heap.size + 1 + 1, 1, none⟩ (.slice none 0 0)).setCell ⟨w.heap.size + 1 + 1, 2, none⟩ (.slice none 0 0)).setCell ⟨w.heap.size + 1 + 1, 3, none⟩ (.slice none 0 0)) = w9
                    intro g1 g2 g3
                    obtain ⟨z0, z1, z2, z3⟩ := g2.cell
                    refine bodyPost_ret (v := .tuple #[.agg #[(.int .i64 0), (.slice none 0 0), (.slice none 0 0), (.slice none 0 0)], .int .i64 19]) ?_ rfl ⟨_, _, _, _, by rw [HRES.out], by rw [HRES.out]; exact Arr.zero_at _ _, g1⟩
                    simp [results, Try.results20, go_sem, z0, z1, z2, z3]
              · have hke : k = cn := by omega
                subst hke
                have hr := HR.out
                rw [Nat.sub_self, valGo] at hr
                have hgo := HGO1.out
                rw [← hr] at hgo
                have HGO2 := Lib.hid (show decGo nx ny st k m (a + 1) (nn ++ [v]) = decGo nx ny st k st 0 [] by rw [← hgo]; simp)
                have hvb1 : -9223372036854775808 ≤ v ∧ v ≤ 9223372036854775807 := ⟨by have := HV.out.1; omega, by have := HV.out.2; omega⟩
                have HVB := Lib.hid hvb1
                clear hgo hr HR HGO1 s0 s1 s2 s3 hvb1
                have hM2 := HMr.out
                have hnlen : nn.length < 17592186044416 := by rw [HNN.out]; omega
                obtain ⟨pv, cv, rfl, _, _⟩ := hM2.on.ints
                have has9 := has
                clear has t0 t1 t2 t3
                have has := has9
                clear has9
                obtain ⟨t0, t1, t2, t3⟩ := hM2.box.cell
                have hEn : Ext wr (wr.alloc (.cells #[.int .i64 v] 3)) := (Ext.refl _).alloc _
                have hnc : (wr.alloc (.cells #[.int .i64 v] 3)).cell? ⟨wr.heap.size, 0, none⟩ = some (.int .i64 v) := by simp
                have hM7 := hM2.next hEn
                have HM7 := Lib.hid hM7
                have HEN := Lib.hid hEn
                clear hM7 hEn hM2
                go_wp2_with (at_builtin; refine wpList_append_int rfl _ _ rfl w.heap.size _ (.slice pv nn.length cv) nn.length nn v rfl HM7.out.on ⟨wr.heap.size, 0, none⟩ 1 rfl hnc HM7.out.xl2 HVB.out (by omega) HM7.out.ext.lt ?_)
                intro g cap w8 hon8 hgrow hat8 _ _
                obtain ⟨q1, q2, q3⟩ := HM7.out.grownN hgrow
                clear t0 t1 t2 t3 hnc
                obtain ⟨_, _, t2, _⟩ := q2.cell
                have tf := q2.free 2
                obtain ⟨hM8, hfar⟩ := HM7.out.storedN (n' := nn ++ [v]) hgrow (by simp) hon8 (by simpa using hat8)
                have HM8 := Lib.hid hM8
                have HFAR := Lib.hid hfar
                clear HM7 hon8 hgrow hat8 q1 q2 q3 hM8 hfar
                go_wp2_with fail
                obtain hM8 := HM8.out
                obtain hfar := HFAR.out
                obtain hEn := HEN.out
                clear HM8 HFAR HEN t2 tf
                have hkeep3 : ∀ q, q < w4.heap.size → q ≠ w3.heap.size → (w8.setCell ⟨w3.heap.size, 2, none⟩ (.slice (some ⟨g, 0, none⟩) (nn.length + 1) cap)).heap[q]? = w4.heap[q]? := fun q h1 h2 => by
                  by_cases h : w.heap.size ≤ q
                  · exact ((hfar q ⟨h1, h⟩ h2).trans (hEn.block (HQL.out q h1))).trans (HK.out q h1 h2)
                  · exact (hM8.ext.block (by omega)).trans (HG1.out.block (by omega)).symm
                revert hM8 hkeep3
                generalize w8.setCell ⟨w3.heap.size, 2, none⟩ (.slice (some ⟨g, 0, none⟩) (nn.length + 1) cap) = wk
                intro hM8 hkeep3
                clear hfar hEn
                (try simp only [Exit.inBlock, Exit.then])
                go_wp2_with fail
                go_roundw
                case rel => exact ⟨a + 1, _, nn ++ [v], by omega, by go_num, by rw [HMQ.out]; exact HGO2.out, by simp [HNN.out], hM8, hkeep3⟩
                case measure => simp [intOf]; omega
          · have hae : a = st := by omega
            subst hae
            have hgo := HGO.out
            rw [Nat.sub_self, decGo] at hgo
            have hres := HR5.out
            rw [← hgo] at hres
            have HRES := Lib.hid (show res = (.mk 1 stl nn [], 0) by rw [← hres]; simp)
            clear hgo hres
            have hiw := HI4.out.mono (G := fun q => w.heap.size + 1 + 1 < q ∧ q < w3.heap.size) (w' := wr) (fun q hq hlt => ⟨⟨by omega, hq.2⟩, HK.out q (by omega) (by omega)⟩)
            have hA := MkB.arr (G := fun q => w.heap.size + 1 + 1 < q ∧ q < w3.heap.size) hM (by omega) ⟨p8, c8, rfl, ⟨l1, l2, l3⟩, hiw⟩ (by simp)
            obtain ⟨p9, c9, rfl, _, _⟩ := hM.on.ints
            obtain ⟨ob0, ob1, ob2, ob3⟩ := hM.box.cell
            obtain ⟨x0, x1, x2, x3⟩ := hB3.cell
            have y0 := hB3.free 0
            have y1 := hB3.free 1
            have y2 := hB3.free 2
            have y3 := hB3.free 3
            have hEM := hM.ext
            have HAA := Lib.hid hA
            have HB9 := Lib.hid hB3
            clear hM hiw hA hB3 hB1 hB2 HK HQL
            go_wp2_with fail
            obtain ⟨g1, g2, g3⟩ := HB9.out.put4 hEM (by omega) (.int .i64 1) (.slice p8 stl.length c8) (.slice p9 nn.length c9) (.slice none 0 0)
            revert g1 g2 g3
            generalize ((((wr.setCell ⟨w.heap.size + 1 + 1, 0, none⟩ (.int .i64 1)).setCell ⟨w.heap.size + 1 + 1, 1, none⟩ (.slice p8 stl.length c8)).setCell ⟨w.heap.size + 1 + 1, 2, none⟩ (.slice p9 nn.length c9)).setCell ⟨w.heap.size + 1 + 1, 3, none⟩ (.slice none 0 0)) = w9
            intro g1 g2 g3
            obtain ⟨z0, z1, z2, z3⟩ := g2.cell
            have hA9 := ArrAt.mono (G := fun b => w.heap.size ≤ b) (w' := w9) (fun b hb _ => ⟨by rcases hb with hb | hb <;> omega, g3 b (by rcases hb with hb | hb; have := hb.2; omega; omega)⟩) _ _ _ _ _ HAA.out
            refine bodyPost_ret (v := .tuple #[.agg #[(.int .i64 1), (.slice p8 stl.length c8), (.slice p9 nn.length c9), (.slice none 0 0)], .int .i64 0]) ?_ rfl ⟨_, _, _, _, by rw [HRES.out], by rw [HRES.out]; exact hA9, g1⟩
            simp [results, Try.results19, go_sem, z0, z1, z2, z3]

end Go.Proofs.Ytmpjnjhiklaofaa
