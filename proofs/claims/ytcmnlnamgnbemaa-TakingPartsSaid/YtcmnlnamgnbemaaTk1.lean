/-
  THE WALKS of taking.abs, of the reference's abs, and of taking.check. (Printed by gen_tk1.py.)
-/
import Derived.Test.YtcmnlnamgnbemaaFill
import Derived.Test.YtcmnlnamgnbemaaVisit
namespace Go.Proofs.Ytcmnlnamgnbemaa
set_option linter.unusedSimpArgs false
set_option linter.unusedVariables false
open Go.RowKit

theorem tkabs_any (n : Int) (w : World) (h1 : -4611686018427387904 ≤ n) (h2 : n ≤ 4611686018427387904) : Calls Try.prog 68 #[.int .i64 n] w fun e w' => e = .returned (.int .i64 (max n (-n))) ∧ w = w' := by
  go_enter Try.func68, Try.ntmps68
  go_wp2
  all_goals (go_ret; exact ⟨ret_int (by omega), rfl⟩)
theorem rabs_any (n : Int) (w : World) (h1 : -4611686018427387904 ≤ n) (h2 : n ≤ 4611686018427387904) : Calls Try.prog 72 #[.int .i64 n] w fun e w' => e = .returned (.int .i64 (max n (-n))) ∧ w = w' := by
  go_enter Try.func72, Try.ntmps72
  go_wp2
  all_goals (go_ret; exact ⟨ret_int (by omega), rfl⟩)

/-- The error of the arguments of Take and Drop. -/
def tkErr (x y : Arr) : Int :=
  if rightV x ≠ 0 then 1 else if rightV y ≠ 0 then 1 else
  match x, y with
  | .mk kx sx nx _, .mk _ sy _ _ => if kx ≠ 1 then 14 else if 1 < sx.length then 15 else if 0 < sy.length ∧ sy.length < nx.length then 16 else if 8 < nx.length then 21 else 0
/-- y with axes for the counts. -/
def tkY (n : Nat) : Arr → Arr
  | .mk ky sy ny iy => .mk ky (if sy.length = 0 then List.replicate n 1 else sy) ny iy

set_option maxRecDepth 100000 in
set_option maxHeartbeats 8000000 in
theorem tkcheck_err (F G : Nat → Prop) (x y : Arr) (c0 c1 c2 c3 d0 d1 d2 d3 : Value) (w : World) (hx : ArrAt F w x c0 c1 c2 c3) (hy : ArrAt G w y d0 d1 d2 d3) (he : tkErr x y ≠ 0) :
    Calls Try.prog 66 #[.agg #[c0, c1, c2, c3], .agg #[d0, d1, d2, d3]] w fun e w' =>
      e = .returned (.tuple #[.slice none 0 0, .agg #[.int .i64 0, .slice none 0 0, .slice none 0 0, .slice none 0 0], .int .i64 (tkErr x y)]) ∧ Ext w w' := by
  obtain ⟨kx, sx, nx, ix⟩ := x
  obtain ⟨ky, sy, ny, iy⟩ := y
  have hx' := hx
  have hy' := hy
  unfold ArrAt at hx' hy'
  obtain ⟨rfl, hkx, ⟨q1, m1, rfl, ⟨o1, o1', o1''⟩, i1⟩, ⟨q2, m2, rfl, ⟨o2, o2', o2''⟩, i2⟩, ⟨q3, m3, rfl, ⟨o3, o3', o3''⟩, i3⟩⟩ := hx'
  obtain ⟨rfl, hky, ⟨r1, n1, rfl, ⟨p1, p1', p1''⟩, j1⟩, ⟨r2, n2, rfl, ⟨p2, p2', p2''⟩, j2⟩, ⟨r3, n3, rfl, ⟨p3, p3', p3''⟩, j3⟩⟩ := hy'
  have HX := Lib.hid hx
  have HY := Lib.hid hy
  have J2 := Lib.hid j2
  have J3 := Lib.hid j3
  clear hx hy i1 i2 i3 j1 j2 j3
  generalize hres : tkErr (.mk kx sx nx ix) (.mk ky sy ny iy) = res at *
  have HR : Hid ((if rightV (.mk kx sx nx ix) ≠ 0 then 1 else if rightV (.mk ky sy ny iy) ≠ 0 then 1 else if kx ≠ 1 then 14 else if 1 < sx.length then 15 else if 0 < sy.length ∧ sy.length < nx.length then 16 else if 8 < nx.length then 21 else 0) = res) := by
    show _ = _
    rw [← hres]; rfl
  clear hres
  go_enter Try.func66, Try.ntmps66
  go_wp2_with fail
  have hE0 : Ext w (((w.alloc (.cells #[.int .i64 kx, .slice q1 sx.length m1, .slice q2 nx.length m2, .slice q3 ix.length m3] 26)).alloc (.cells #[.int .i64 ky, .slice r1 sy.length n1, .slice r2 ny.length n2, .slice r3 iy.length n3] 26)).alloc (.cells #[.int .i64 0, .slice none 0 0, .slice none 0 0, .slice none 0 0] 26)) := (((Ext.refl _).alloc _).alloc _).alloc _
  have hBX := ((box_new w (.int .i64 kx) (.slice q1 sx.length m1) (.slice q2 nx.length m2) (.slice q3 ix.length m3)).ext ((Ext.refl _).alloc (.cells #[.int .i64 ky, .slice r1 sy.length n1, .slice r2 ny.length n2, .slice r3 iy.length n3] 26))).ext ((Ext.refl _).alloc (.cells #[.int .i64 0, .slice none 0 0, .slice none 0 0, .slice none 0 0] 26))
  have hBY := (box_new (w.alloc (.cells #[.int .i64 kx, .slice q1 sx.length m1, .slice q2 nx.length m2, .slice q3 ix.length m3] 26)) (.int .i64 ky) (.slice r1 sy.length n1) (.slice r2 ny.length n2) (.slice r3 iy.length n3)).ext ((Ext.refl _).alloc (.cells #[.int .i64 0, .slice none 0 0, .slice none 0 0, .slice none 0 0] 26))
  have hBZ := box_new ((w.alloc (.cells #[.int .i64 kx, .slice q1 sx.length m1, .slice q2 nx.length m2, .slice q3 ix.length m3] 26)).alloc (.cells #[.int .i64 ky, .slice r1 sy.length n1, .slice r2 ny.length n2, .slice r3 iy.length n3] 26)) (.int .i64 0) (.slice none 0 0) (.slice none 0 0) (.slice none 0 0)
  rw [World.size_alloc] at hBY
  rw [World.size_alloc, World.size_alloc] at hBZ
  generalize (((w.alloc (.cells #[.int .i64 kx, .slice q1 sx.length m1, .slice q2 nx.length m2, .slice q3 ix.length m3] 26)).alloc (.cells #[.int .i64 ky, .slice r1 sy.length n1, .slice r2 ny.length n2, .slice r3 iy.length n3] 26)).alloc (.cells #[.int .i64 0, .slice none 0 0, .slice none 0 0, .slice none 0 0] 26)) = w1 at hE0 hBX hBY hBZ ⊢
  refine (right_any F _ _ _ _ _ w1 (HX.out.ext hE0)).mono ?_
  rintro e w2 ⟨rfl, hE1⟩
  have hE2 := hE0.trans hE1
  have hBX2 := hBX.ext hE1
  have hBY2 := hBY.ext hE1
  have hBZ2 := hBZ.ext hE1
  clear hE0 hBX hBY hBZ hE1
  by_cases hr : rightV (.mk kx sx nx ix) = 0
  · have hR1 := HR.out
    rw [if_neg (by simp [hr])] at hR1
    have HR1 := Lib.hid hR1
    rw [hr]
    clear hR1 HR hr
    obtain ⟨t0, t1, t2, t3⟩ := hBY2.cell
    go_wp2_with fail
    clear t0 t1 t2 t3
    refine (right_any G _ _ _ _ _ w2 (HY.out.ext hE2)).mono ?_
    rintro e w3 ⟨rfl, hE3⟩
    have hE4 := hE2.trans hE3
    have hBX := hBX2.ext hE3
    have hBY := hBY2.ext hE3
    have hBZ := hBZ2.ext hE3
    have hl3 := hE3.lt
    clear hE2 hE3 hBX2 hBY2 hBZ2
    by_cases hq : rightV (.mk ky sy ny iy) = 0
    · have hR1 := HR1.out
      rw [if_neg (by simp [hq])] at hR1
      have HR2 := Lib.hid hR1
      rw [hq]
      clear hR1 HR1 hq
      obtain ⟨s0, s1, s2, s3⟩ := hBX.cell
      obtain ⟨t0, t1, t2, t3⟩ := hBY.cell
      by_cases hk : kx = 1
      · have hR1 := HR2.out
        rw [if_neg (by simp [hk])] at hR1
        have HR3 := Lib.hid hR1
        have hkb : (kx != 1) = false := by simpa using hk
        clear hR1 HR2 hk
        by_cases hl : 1 < sx.length
        · have hR1 := HR3.out
          rw [if_pos hl] at hR1
          subst hR1
          have hl' : (1 : Int) < sx.length := by omega
          obtain ⟨x0, x1, x2, x3⟩ := hBZ.cell
          have f0 := hBZ.free 0
          have f1 := hBZ.free 1
          have f2 := hBZ.free 2
          have f3 := hBZ.free 3
          go_wp2_with fail
          obtain ⟨g1, g2, g3⟩ := hBZ.put4 hE4 (by omega) (.int .i64 0) (.slice none 0 0) (.slice none 0 0) (.slice none 0 0)
          revert g1 g2 g3
          generalize ((((w3.setCell ⟨w.heap.size + 1 + 1, 0, none⟩ (.int .i64 0)).setCell ⟨w.heap.size + 1 + 1, 1, none⟩ (.slice none 0 0)).setCell ⟨w.heap.size + 1 + 1, 2, none⟩ (.slice none 0 0)).setCell ⟨w.heap.size + 1 + 1, 3, none⟩ (.slice none 0 0)) = w9
          intro g1 g2 g3
          obtain ⟨z0, z1, z2, z3⟩ := g2.cell
          refine bodyPost_ret (v := .tuple #[.slice none 0 0, .agg #[.int .i64 0, .slice none 0 0, .slice none 0 0, .slice none 0 0], .int .i64 15]) ?_ rfl ⟨rfl, g1⟩
          simp [results, Try.results66, go_sem, z0, z1, z2, z3]
        · have hR1 := HR3.out
          rw [if_neg hl] at hR1
          have HR4 := Lib.hid hR1
          have hl' : ¬ (1 : Int) < sx.length := by omega
          clear hR1 HR3
          by_cases hm : 0 < sy.length ∧ sy.length < nx.length
          · have hR1 := HR4.out
            rw [if_pos hm] at hR1
            subst hR1
            obtain ⟨hm1, hm2⟩ := hm
            have hm1' : (0 : Int) < sy.length := by omega
            have hm2' : (sy.length : Int) < nx.length := by omega
            obtain ⟨x0, x1, x2, x3⟩ := hBZ.cell
            have f0 := hBZ.free 0
            have f1 := hBZ.free 1
            have f2 := hBZ.free 2
            have f3 := hBZ.free 3
            go_wp2_with fail
            obtain ⟨g1, g2, g3⟩ := hBZ.put4 hE4 (by omega) (.int .i64 0) (.slice none 0 0) (.slice none 0 0) (.slice none 0 0)
            revert g1 g2 g3
            generalize ((((w3.setCell ⟨w.heap.size + 1 + 1, 0, none⟩ (.int .i64 0)).setCell ⟨w.heap.size + 1 + 1, 1, none⟩ (.slice none 0 0)).setCell ⟨w.heap.size + 1 + 1, 2, none⟩ (.slice none 0 0)).setCell ⟨w.heap.size + 1 + 1, 3, none⟩ (.slice none 0 0)) = w9
            intro g1 g2 g3
            obtain ⟨z0, z1, z2, z3⟩ := g2.cell
            refine bodyPost_ret (v := .tuple #[.slice none 0 0, .agg #[.int .i64 0, .slice none 0 0, .slice none 0 0, .slice none 0 0], .int .i64 16]) ?_ rfl ⟨rfl, g1⟩
            simp [results, Try.results66, go_sem, z0, z1, z2, z3]
          · have hR1 := HR4.out
            rw [if_neg hm] at hR1
            by_cases h8 : 8 < nx.length
            · rw [if_pos h8] at hR1
              subst hR1
              have hz : sy.length ≤ 8 ∨ True := .inr trivial
              have h8' : (8 : Int) < nx.length := by omega
              by_cases hs0 : 0 < sy.length
              · have hs1 : (0 : Int) < sy.length := by omega
                have hs2 : ¬ (sy.length : Int) < nx.length := by omega
                have hs3 : ¬ sy.length < nx.length := by omega
                obtain ⟨x0, x1, x2, x3⟩ := hBZ.cell
                have f0 := hBZ.free 0
                have f1 := hBZ.free 1
                have f2 := hBZ.free 2
                have f3 := hBZ.free 3
                go_wp2_with fail
                obtain ⟨g1, g2, g3⟩ := hBZ.put4 hE4 (by omega) (.int .i64 0) (.slice none 0 0) (.slice none 0 0) (.slice none 0 0)
                revert g1 g2 g3
                generalize ((((w3.setCell ⟨w.heap.size + 1 + 1, 0, none⟩ (.int .i64 0)).setCell ⟨w.heap.size + 1 + 1, 1, none⟩ (.slice none 0 0)).setCell ⟨w.heap.size + 1 + 1, 2, none⟩ (.slice none 0 0)).setCell ⟨w.heap.size + 1 + 1, 3, none⟩ (.slice none 0 0)) = w9
                intro g1 g2 g3
                obtain ⟨z0, z1, z2, z3⟩ := g2.cell
                refine bodyPost_ret (v := .tuple #[.slice none 0 0, .agg #[.int .i64 0, .slice none 0 0, .slice none 0 0, .slice none 0 0], .int .i64 21]) ?_ rfl ⟨rfl, g1⟩
                simp [results, Try.results66, go_sem, z0, z1, z2, z3]
              · have hs1 : ¬ (0 : Int) < sy.length := by omega
                obtain ⟨x0, x1, x2, x3⟩ := hBZ.cell
                have f0 := hBZ.free 0
                have f1 := hBZ.free 1
                have f2 := hBZ.free 2
                have f3 := hBZ.free 3
                go_wp2_with fail
                obtain ⟨g1, g2, g3⟩ := hBZ.put4 hE4 (by omega) (.int .i64 0) (.slice none 0 0) (.slice none 0 0) (.slice none 0 0)
                revert g1 g2 g3
                generalize ((((w3.setCell ⟨w.heap.size + 1 + 1, 0, none⟩ (.int .i64 0)).setCell ⟨w.heap.size + 1 + 1, 1, none⟩ (.slice none 0 0)).setCell ⟨w.heap.size + 1 + 1, 2, none⟩ (.slice none 0 0)).setCell ⟨w.heap.size + 1 + 1, 3, none⟩ (.slice none 0 0)) = w9
                intro g1 g2 g3
                obtain ⟨z0, z1, z2, z3⟩ := g2.cell
                refine bodyPost_ret (v := .tuple #[.slice none 0 0, .agg #[.int .i64 0, .slice none 0 0, .slice none 0 0, .slice none 0 0], .int .i64 21]) ?_ rfl ⟨rfl, g1⟩
                simp [results, Try.results66, go_sem, z0, z1, z2, z3]
            · rw [if_neg h8] at hR1
              exact absurd hR1.symm he
      · have hR1 := HR2.out
        rw [if_pos hk] at hR1
        subst hR1
        have hkb : (kx != 1) = true := by simpa using hk
        clear hk
        obtain ⟨x0, x1, x2, x3⟩ := hBZ.cell
        have f0 := hBZ.free 0
        have f1 := hBZ.free 1
        have f2 := hBZ.free 2
        have f3 := hBZ.free 3
        go_wp2_with fail
        obtain ⟨g1, g2, g3⟩ := hBZ.put4 hE4 (by omega) (.int .i64 0) (.slice none 0 0) (.slice none 0 0) (.slice none 0 0)
        revert g1 g2 g3
        generalize ((((w3.setCell ⟨w.heap.size + 1 + 1, 0, none⟩ (.int .i64 0)).setCell ⟨w.heap.size + 1 + 1, 1, none⟩ (.slice none 0 0)).setCell ⟨w.heap.size + 1 + 1, 2, none⟩ (.slice none 0 0)).setCell ⟨w.heap.size + 1 + 1, 3, none⟩ (.slice none 0 0)) = w9
        intro g1 g2 g3
        obtain ⟨z0, z1, z2, z3⟩ := g2.cell
        refine bodyPost_ret (v := .tuple #[.slice none 0 0, .agg #[.int .i64 0, .slice none 0 0, .slice none 0 0, .slice none 0 0], .int .i64 14]) ?_ rfl ⟨rfl, g1⟩
        simp [results, Try.results66, go_sem, z0, z1, z2, z3]
    · have hR1 := HR1.out
      rw [if_pos hq] at hR1
      subst hR1
      have hrb : (rightV (.mk ky sy ny iy) != 0) = true := by simpa using hq
      generalize rightV (.mk ky sy ny iy) = rv at *
      clear hq HR1
      obtain ⟨x0, x1, x2, x3⟩ := hBZ.cell
      have f0 := hBZ.free 0
      have f1 := hBZ.free 1
      have f2 := hBZ.free 2
      have f3 := hBZ.free 3
      go_wp2_with fail
      obtain ⟨g1, g2, g3⟩ := hBZ.put4 hE4 (by omega) (.int .i64 0) (.slice none 0 0) (.slice none 0 0) (.slice none 0 0)
      revert g1 g2 g3
      generalize ((((w3.setCell ⟨w.heap.size + 1 + 1, 0, none⟩ (.int .i64 0)).setCell ⟨w.heap.size + 1 + 1, 1, none⟩ (.slice none 0 0)).setCell ⟨w.heap.size + 1 + 1, 2, none⟩ (.slice none 0 0)).setCell ⟨w.heap.size + 1 + 1, 3, none⟩ (.slice none 0 0)) = w9
      intro g1 g2 g3
      obtain ⟨z0, z1, z2, z3⟩ := g2.cell
      refine bodyPost_ret (v := .tuple #[.slice none 0 0, .agg #[.int .i64 0, .slice none 0 0, .slice none 0 0, .slice none 0 0], .int .i64 1]) ?_ rfl ⟨rfl, g1⟩
      simp [results, Try.results66, go_sem, z0, z1, z2, z3]
  · have hR1 := HR.out
    rw [if_pos hr] at hR1
    subst hR1
    have hrb : (rightV (.mk kx sx nx ix) != 0) = true := by simpa using hr
    generalize rightV (.mk kx sx nx ix) = rv at *
    clear hr HR
    obtain ⟨x0, x1, x2, x3⟩ := hBZ2.cell
    have f0 := hBZ2.free 0
    have f1 := hBZ2.free 1
    have f2 := hBZ2.free 2
    have f3 := hBZ2.free 3
    go_wp2_with fail
    obtain ⟨g1, g2, g3⟩ := hBZ2.put4 hE2 (by omega) (.int .i64 0) (.slice none 0 0) (.slice none 0 0) (.slice none 0 0)
    revert g1 g2 g3
    generalize ((((w2.setCell ⟨w.heap.size + 1 + 1, 0, none⟩ (.int .i64 0)).setCell ⟨w.heap.size + 1 + 1, 1, none⟩ (.slice none 0 0)).setCell ⟨w.heap.size + 1 + 1, 2, none⟩ (.slice none 0 0)).setCell ⟨w.heap.size + 1 + 1, 3, none⟩ (.slice none 0 0)) = w9
    intro g1 g2 g3
    obtain ⟨z0, z1, z2, z3⟩ := g2.cell
    refine bodyPost_ret (v := .tuple #[.slice none 0 0, .agg #[.int .i64 0, .slice none 0 0, .slice none 0 0, .slice none 0 0], .int .i64 1]) ?_ rfl ⟨rfl, g1⟩
    simp [results, Try.results66, go_sem, z0, z1, z2, z3]

set_option maxRecDepth 100000 in
set_option maxHeartbeats 8000000 in
theorem tkcheck_ok (F G : Nat → Prop) (x y : Arr) (q2 : Option Addr) (m2 : Nat) (kx : Int) (sx nx : List Int) (ix : List Arr) (c0 c1 c3 d0 d1 d2 d3 : Value) (w : World) (hxe : x = .mk kx sx nx ix) (hx : ArrAt F w x c0 c1 (.slice q2 nx.length m2) c3) (hy : ArrAt G w y d0 d1 d2 d3) (he : tkErr x y = 0) :
    Calls Try.prog 66 #[.agg #[c0, c1, .slice q2 nx.length m2, c3], .agg #[d0, d1, d2, d3]] w fun e w' =>
      ∃ e0 e1 e2 e3, e = .returned (.tuple #[.slice q2 nx.length m2, .agg #[e0, e1, e2, e3], .int .i64 0]) ∧ ArrAt (fun b => w.heap.size ≤ b ∨ G b) w' (tkY nx.length y) e0 e1 e2 e3 ∧ Ext w w' := by
  subst hxe
  obtain ⟨ky, sy, ny, iy⟩ := y
  have hx' := hx
  have hy' := hy
  unfold ArrAt at hx' hy'
  obtain ⟨rfl, hkx, ⟨q1, m1, rfl, ⟨o1, o1', o1''⟩, i1⟩, ⟨q2', m2', hq2, ⟨o2, o2', o2''⟩, i2⟩, ⟨q3, m3, rfl, ⟨o3, o3', o3''⟩, i3⟩⟩ := hx'
  simp only [Value.slice.injEq, true_and] at hq2
  obtain ⟨rfl, rfl⟩ := hq2
  obtain ⟨rfl, hky, ⟨r1, n1, rfl, ⟨p1, p1', p1''⟩, j1⟩, ⟨r2, n2, rfl, ⟨p2, p2', p2''⟩, j2⟩, ⟨r3, n3, rfl, ⟨p3, p3', p3''⟩, j3⟩⟩ := hy'
  have HX := Lib.hid hx
  have HY := Lib.hid hy
  have J1 := Lib.hid j1
  have J2 := Lib.hid j2
  have J3 := Lib.hid j3
  clear hx hy i1 i2 i3 j1 j2 j3
  have hcond : rightV (.mk kx sx nx ix) = 0 ∧ rightV (.mk ky sy ny iy) = 0 ∧ kx = 1 ∧ ¬ 1 < sx.length ∧ ¬ (0 < sy.length ∧ sy.length < nx.length) ∧ ¬ 8 < nx.length := by
    have h : (if rightV (.mk kx sx nx ix) ≠ 0 then 1 else if rightV (.mk ky sy ny iy) ≠ 0 then 1 else if kx ≠ 1 then 14 else if 1 < sx.length then 15 else if 0 < sy.length ∧ sy.length < nx.length then 16 else if 8 < nx.length then 21 else (0 : Int)) = 0 := he
    split at h
    · cases h
    split at h
    · cases h
    split at h
    · cases h
    split at h
    · cases h
    split at h
    · cases h
    split at h
    · cases h
    refine ⟨?_, ?_, ?_, ?_, ?_, ?_⟩ <;> omega
  obtain ⟨hrx, hry, hk1, hl, hm, h8⟩ := hcond
  have hkb : (kx != 1) = false := by simpa using hk1
  have HRX := Lib.hid hrx
  have HRY := Lib.hid hry
  have hl' : ¬ (1 : Int) < sx.length := by omega
  have h8' : ¬ (8 : Int) < nx.length := by omega
  clear hrx hry he hl hk1
  go_enter Try.func66, Try.ntmps66
  go_wp2_with fail
  have hE0 : Ext w (((w.alloc (.cells #[.int .i64 kx, .slice q1 sx.length m1, .slice q2 nx.length m2, .slice q3 ix.length m3] 26)).alloc (.cells #[.int .i64 ky, .slice r1 sy.length n1, .slice r2 ny.length n2, .slice r3 iy.length n3] 26)).alloc (.cells #[.int .i64 0, .slice none 0 0, .slice none 0 0, .slice none 0 0] 26)) := (((Ext.refl _).alloc _).alloc _).alloc _
  have hBX := ((box_new w (.int .i64 kx) (.slice q1 sx.length m1) (.slice q2 nx.length m2) (.slice q3 ix.length m3)).ext ((Ext.refl _).alloc (.cells #[.int .i64 ky, .slice r1 sy.length n1, .slice r2 ny.length n2, .slice r3 iy.length n3] 26))).ext ((Ext.refl _).alloc (.cells #[.int .i64 0, .slice none 0 0, .slice none 0 0, .slice none 0 0] 26))
  have hBY := (box_new (w.alloc (.cells #[.int .i64 kx, .slice q1 sx.length m1, .slice q2 nx.length m2, .slice q3 ix.length m3] 26)) (.int .i64 ky) (.slice r1 sy.length n1) (.slice r2 ny.length n2) (.slice r3 iy.length n3)).ext ((Ext.refl _).alloc (.cells #[.int .i64 0, .slice none 0 0, .slice none 0 0, .slice none 0 0] 26))
  have hBZ := box_new ((w.alloc (.cells #[.int .i64 kx, .slice q1 sx.length m1, .slice q2 nx.length m2, .slice q3 ix.length m3] 26)).alloc (.cells #[.int .i64 ky, .slice r1 sy.length n1, .slice r2 ny.length n2, .slice r3 iy.length n3] 26)) (.int .i64 0) (.slice none 0 0) (.slice none 0 0) (.slice none 0 0)
  rw [World.size_alloc] at hBY
  rw [World.size_alloc, World.size_alloc] at hBZ
  generalize (((w.alloc (.cells #[.int .i64 kx, .slice q1 sx.length m1, .slice q2 nx.length m2, .slice q3 ix.length m3] 26)).alloc (.cells #[.int .i64 ky, .slice r1 sy.length n1, .slice r2 ny.length n2, .slice r3 iy.length n3] 26)).alloc (.cells #[.int .i64 0, .slice none 0 0, .slice none 0 0, .slice none 0 0] 26)) = w1 at hE0 hBX hBY hBZ ⊢
  refine (right_any F _ _ _ _ _ w1 (HX.out.ext hE0)).mono ?_
  rintro e w2 ⟨rfl, hE1⟩
  have hE2 := hE0.trans hE1
  have hBX2 := hBX.ext hE1
  have hBY2 := hBY.ext hE1
  have hBZ2 := hBZ.ext hE1
  clear hE0 hBX hBY hBZ hE1
  rw [HRX.out]
  obtain ⟨t0, t1, t2, t3⟩ := hBY2.cell
  go_wp2_with fail
  clear t0 t1 t2 t3
  refine (right_any G _ _ _ _ _ w2 (HY.out.ext hE2)).mono ?_
  rintro e w3 ⟨rfl, hE3⟩
  have hE4 := hE2.trans hE3
  have hBX := hBX2.ext hE3
  have hBY := hBY2.ext hE3
  have hBZ := hBZ2.ext hE3
  have hl3 := hE3.lt
  rw [HRY.out]
  clear hE2 hE3 hBX2 hBY2 hBZ2
  obtain ⟨s0, s1, s2, s3⟩ := hBX.cell
  obtain ⟨t0, t1, t2, t3⟩ := hBY.cell
  by_cases hs0 : 0 < sy.length
  · have hs1 : (0 : Int) < sy.length := by omega
    have hs2 : ¬ (sy.length : Int) < nx.length := by omega
    have hs3 : ¬ sy.length < nx.length := by omega
    have hs4 : ((sy.length : Int) == 0) = false := beq_eq_false_iff_ne.2 (by omega)
    have hs5 : sy.length ≠ 0 := by omega
    have HT : Hid (tkY nx.length (.mk ky sy ny iy) = .mk ky sy ny iy) := by
      show _ = _
      rw [tkY, if_neg hs5]
    clear hs5
    go_wp2_with fail
    have HBX := Lib.hid hBX
    have HBY := Lib.hid hBY
    obtain ⟨wz, rfl⟩ : ∃ wz : World, wz = w3 := ⟨_, rfl⟩
    clear hBX hBY s0 s1 s2 s3 t0 t1 t2 t3
    refine wp_region_x2 [MProp.is (.pointer (some ⟨w.heap.size, 2, none⟩)), MProp.is (.slice q2 nx.length m2), MProp.is (.agg #[.int .i64 ky, .slice r1 sy.length n1, .slice r2 ny.length n2, .slice r3 iy.length n3]), MProp.is (.slice q2 nx.length m2)] [0, 1, 2, 3] [] [59, 60, 61, 4] 4 5 (by kernel_rfl) (by kernel_rfl) rfl rfl rfl ?_ ?_ ?_
    · refine mem_cons_m ?_ (mem_cons_m ?_ (mem_cons_m ?_ (mem_cons_m ?_ (mem_nil_m))))
      · refine ⟨_, 59, rfl, by kernel_rfl, ?_⟩
        intro u w9 X hE hX hd K hK
        clear hd
        simp only [overlay, List.setIfInBounds_toArray, List.set] at hK ⊢
        go_wp2_with fail
        exact hK _ _ X (Ext.refl _) kept_m hX rfl
      · refine ⟨_, 60, rfl, by kernel_rfl, ?_⟩
        intro u w9 X hE hX hd K hK
        have d0 : u 59 = .pointer (some ⟨w.heap.size, 2, none⟩) := hd 0 (by kernel_rfl)
        clear hd
        simp only [overlay, List.setIfInBounds_toArray, List.set, d0] at hK ⊢
        have e9 := (Ext.refl wz).drew.trans hE
        obtain ⟨s0, s1, s2, s3⟩ := (HBX.out.ext e9).cell
        go_wp2_with fail
        exact hK _ _ X (Ext.refl _) kept_m hX rfl
      · refine ⟨_, 61, rfl, by kernel_rfl, ?_⟩
        intro u w9 X hE hX hd K hK
        clear hd
        simp only [overlay, List.setIfInBounds_toArray, List.set] at hK ⊢
        have e9 := (Ext.refl wz).drew.trans hE
        obtain ⟨s0, s1, s2, s3⟩ := (HBY.out.ext e9).cell
        go_wp2_with fail
        exact hK _ _ X (Ext.refl _) kept_m hX rfl
      · refine ⟨_, 4, rfl, by kernel_rfl, ?_⟩
        intro u w9 X hE hX hd K hK
        have d1 : u 60 = .slice q2 nx.length m2 := hd 1 (by kernel_rfl)
        clear hd
        simp only [overlay, List.setIfInBounds_toArray, List.set, d1] at hK ⊢
        go_wp2_with fail
        exact hK _ _ X (Ext.refl _) kept_m hX rfl
    · exact mem_nil_m
    intro u w9 X hE hX hd
    have d0 : u 59 = .pointer (some ⟨w.heap.size, 2, none⟩) := hd 0 (by decide)
    have d1 : u 60 = .slice q2 nx.length m2 := hd 1 (by decide)
    have d2 : u 61 = .agg #[.int .i64 ky, .slice r1 sy.length n1, .slice r2 ny.length n2, .slice r3 iy.length n3] := hd 2 (by decide)
    have d3 : u 4 = .slice q2 nx.length m2 := hd 3 (by decide)
    clear hd
    simp only [overlay, List.setIfInBounds_toArray, List.set, d0, d1, d2, d3]
    have e9 := (Ext.refl wz).drew.trans hE
    have hEe := hE4.trans e9
    have hBZ9 := hBZ.ext e9
    have hl9 := e9.lt
    obtain ⟨x0, x1, x2, x3⟩ := hBZ9.cell
    have f0 := hBZ9.free 0
    have f1 := hBZ9.free 1
    have f2 := hBZ9.free 2
    have f3 := hBZ9.free 3
    clear d0 d1 d2 d3 hX u
    go_wp2_with fail
    refine OnlyN.mk ?_
    have hA9 := (HY.out.ext hEe)
    obtain ⟨g1, g2, g3⟩ := hBZ9.put4 hEe (by omega) (.int .i64 ky) (.slice r1 sy.length n1) (.slice r2 ny.length n2) (.slice r3 iy.length n3)
    revert g1 g2 g3
    clear x0 x1 x2 x3 f0 f1 f2 f3
    generalize hwq : ((((w9.setCell ⟨w.heap.size + 1 + 1, 0, none⟩ (.int .i64 ky)).setCell ⟨w.heap.size + 1 + 1, 1, none⟩ (.slice r1 sy.length n1)).setCell ⟨w.heap.size + 1 + 1, 2, none⟩ (.slice r2 ny.length n2)).setCell ⟨w.heap.size + 1 + 1, 3, none⟩ (.slice r3 iy.length n3)) = wq
    clear hwq
    intro g1 g2 g3
    obtain ⟨z0, z1, z2, z3⟩ := g2.cell
    go_wp2_with fail
    refine bodyPost_ret (v := .tuple #[.slice q2 nx.length m2, .agg #[.int .i64 ky, .slice r1 sy.length n1, .slice r2 ny.length n2, .slice r3 iy.length n3], .int .i64 0]) ?_ rfl ⟨_, _, _, _, rfl, by rw [HT.out]; exact ArrAt.mono (fun b hb hlt => ⟨.inr hb, g1.block hlt⟩) _ _ _ _ _ HY.out, g1⟩
    simp [results, Try.results66, go_sem, z0, z1, z2, z3]
  · have hs1 : ¬ (0 : Int) < sy.length := by omega
    have hnil : sy = [] := List.eq_nil_of_length_eq_zero (by omega)
    subst hnil
    have HT : Hid (tkY nx.length (.mk ky [] ny iy) = .mk ky (List.replicate nx.length 1) ny iy) := rfl
    have hl1 := hBX.lt
    have hl2 := hBY.lt
    go_wp2_with fail
    have hrow := (rowI_new' w3 [1]).ints (by simp)
    have hEr : Ext w3 (w3.alloc (.cells #[.int .i64 1] 3)) := (Ext.refl _).alloc _
    change IntsAt _ (w3.alloc (.cells #[.int .i64 1] 3)) _ _ at hrow
    have hBX4 := hBX.ext hEr
    have hBY4 := hBY.ext hEr
    have hBZ4 := hBZ.ext hEr
    generalize w3.alloc (.cells #[.int .i64 1] 3) = w4 at *
    refine (repeat_one _ _ 1 1 nx.length w4 hrow (by omega)).mono ?_
    rintro e w5 ⟨g, rfl, hg, hRg, hE5⟩
    have hE6 := hE4.trans (hEr.trans hE5)
    have hl5 := (hEr.trans hE5).lt
    have hBX5 := hBX4.ext hE5
    have hBY5 := hBY4.ext hE5
    have hBZ5 := hBZ4.ext hE5
    have hb5 := hBY4.lt
    clear s0 s1 s2 s3 t0 t1 t2 t3 hrow
    obtain ⟨t0, t1, t2, t3⟩ := hBY5.cell
    have f1 := hBY5.free 1
    have hlz := hBZ4.lt
    go_wp2_with fail
    have hBY6 := hBY5.set1 (.slice (some ⟨g, 0, none⟩) nx.length nx.length)
    have far : ∀ q, q ≠ w.heap.size + 1 → (w5.setCell ⟨w.heap.size + 1, 1, none⟩ (.slice (some ⟨g, 0, none⟩) nx.length nx.length)).heap[q]? = w5.heap[q]? := fun q hq => Below.heap_setCell _ _ _ _ (by simpa using hq)
    have hBX6 := hBX5.kept (far _ (by omega))
    have hBZ6 := hBZ5.kept (far _ (by omega))
    have hR6 := hRg.kept (far g (by omega))
    have hE7 : Ext w (w5.setCell ⟨w.heap.size + 1, 1, none⟩ (.slice (some ⟨g, 0, none⟩) nx.length nx.length)) := hE6.setCell (p := ⟨w.heap.size + 1, 1, none⟩) (by simp) _
    generalize w5.setCell ⟨w.heap.size + 1, 1, none⟩ (.slice (some ⟨g, 0, none⟩) nx.length nx.length) = wz at hBX6 hBZ6 hR6 hE7 hBY6 ⊢
    have HBX := Lib.hid hBX6
    have HBY := Lib.hid hBY6
    have hgl : w.heap.size + 1 + 1 < g := by omega
    clear hBX hBY hBZ hBX4 hBY4 hBZ4 hBX5 hBY5 hBZ5 hBX6 hBY6 t0 t1 t2 t3 f1 far hRg hE5 hE6 hEr hb5 hl5
    refine wp_region_x2 [MProp.is (.pointer (some ⟨w.heap.size, 2, none⟩)), MProp.is (.slice q2 nx.length m2), MProp.is (.agg #[.int .i64 ky, .slice (some ⟨g, 0, none⟩) nx.length nx.length, .slice r2 ny.length n2, .slice r3 iy.length n3]), MProp.is (.slice q2 nx.length m2)] [0, 1, 2, 3] [] [59, 60, 61, 4] 4 5 (by kernel_rfl) (by kernel_rfl) rfl rfl rfl ?_ ?_ ?_
    · refine mem_cons_m ?_ (mem_cons_m ?_ (mem_cons_m ?_ (mem_cons_m ?_ (mem_nil_m))))
      · refine ⟨_, 59, rfl, by kernel_rfl, ?_⟩
        intro u w9 X hE hX hd K hK
        clear hd
        simp only [overlay, List.setIfInBounds_toArray, List.set] at hK ⊢
        go_wp2_with fail
        exact hK _ _ X (Ext.refl _) kept_m hX rfl
      · refine ⟨_, 60, rfl, by kernel_rfl, ?_⟩
        intro u w9 X hE hX hd K hK
        have d0 : u 59 = .pointer (some ⟨w.heap.size, 2, none⟩) := hd 0 (by kernel_rfl)
        clear hd
        simp only [overlay, List.setIfInBounds_toArray, List.set, d0] at hK ⊢
        have e9 := (Ext.refl wz).drew.trans hE
        obtain ⟨s0, s1, s2, s3⟩ := (HBX.out.ext e9).cell
        go_wp2_with fail
        exact hK _ _ X (Ext.refl _) kept_m hX rfl
      · refine ⟨_, 61, rfl, by kernel_rfl, ?_⟩
        intro u w9 X hE hX hd K hK
        clear hd
        simp only [overlay, List.setIfInBounds_toArray, List.set] at hK ⊢
        have e9 := (Ext.refl wz).drew.trans hE
        obtain ⟨s0, s1, s2, s3⟩ := (HBY.out.ext e9).cell
        go_wp2_with fail
        exact hK _ _ X (Ext.refl _) kept_m hX rfl
      · refine ⟨_, 4, rfl, by kernel_rfl, ?_⟩
        intro u w9 X hE hX hd K hK
        have d1 : u 60 = .slice q2 nx.length m2 := hd 1 (by kernel_rfl)
        clear hd
        simp only [overlay, List.setIfInBounds_toArray, List.set, d1] at hK ⊢
        go_wp2_with fail
        exact hK _ _ X (Ext.refl _) kept_m hX rfl
    · exact mem_nil_m
    intro u w9 X hE hX hd
    have d0 : u 59 = .pointer (some ⟨w.heap.size, 2, none⟩) := hd 0 (by decide)
    have d1 : u 60 = .slice q2 nx.length m2 := hd 1 (by decide)
    have d2 : u 61 = .agg #[.int .i64 ky, .slice (some ⟨g, 0, none⟩) nx.length nx.length, .slice r2 ny.length n2, .slice r3 iy.length n3] := hd 2 (by decide)
    have d3 : u 4 = .slice q2 nx.length m2 := hd 3 (by decide)
    clear hd
    simp only [overlay, List.setIfInBounds_toArray, List.set, d0, d1, d2, d3]
    have e9 := (Ext.refl wz).drew.trans hE
    have hEe := hE7.trans e9
    have hBZ9 := hBZ6.ext e9
    have hR9 := hR6.ext e9
    have hl9 := hEe.lt
    obtain ⟨x0, x1, x2, x3⟩ := hBZ9.cell
    have f0 := hBZ9.free 0
    have f1 := hBZ9.free 1
    have f2 := hBZ9.free 2
    have f3 := hBZ9.free 3
    clear d0 d1 d2 d3 hX u
    go_wp2_with fail
    refine OnlyN.mk ?_
    obtain ⟨g1, g2, g3⟩ := hBZ9.put4 hEe (by omega) (.int .i64 ky) (.slice (some ⟨g, 0, none⟩) nx.length nx.length) (.slice r2 ny.length n2) (.slice r3 iy.length n3)
    revert g1 g2 g3
    clear x0 x1 x2 x3 f0 f1 f2 f3
    generalize hwq : ((((w9.setCell ⟨w.heap.size + 1 + 1, 0, none⟩ (.int .i64 ky)).setCell ⟨w.heap.size + 1 + 1, 1, none⟩ (.slice (some ⟨g, 0, none⟩) nx.length nx.length)).setCell ⟨w.heap.size + 1 + 1, 2, none⟩ (.slice r2 ny.length n2)).setCell ⟨w.heap.size + 1 + 1, 3, none⟩ (.slice r3 iy.length n3)) = wq
    clear hwq
    intro g1 g2 g3
    obtain ⟨z0, z1, z2, z3⟩ := g2.cell
    have hRq := hR9.kept (g3 g (by omega))
    have hrl : (List.replicate nx.length (1 : Int)).length = nx.length := by simp
    have hA : ArrAt (fun b => w.heap.size ≤ b ∨ G b) wq (.mk ky (List.replicate nx.length 1) ny iy) (.int .i64 ky) (.slice (some ⟨g, 0, none⟩) nx.length nx.length) (.slice r2 ny.length n2) (.slice r3 iy.length n3) := by
      unfold ArrAt
      refine ⟨rfl, hky, ⟨some ⟨g, 0, none⟩, nx.length, by rw [hrl], by rw [hrl]; exact ⟨Nat.le_refl _, by omega, by omega⟩, (hRq.ints (by simp)).mono fun b hb _ => ⟨.inl (by omega), rfl⟩⟩, ⟨r2, n2, rfl, ⟨p2, p2', p2''⟩, J2.out.mono fun b hb hlt => ⟨.inr hb, g1.block hlt⟩⟩, ⟨r3, n3, rfl, ⟨p3, p3', p3''⟩, ItemsAt.mono (fun b hb hlt => ⟨.inr hb, g1.block hlt⟩) _ _ _ J3.out⟩⟩
    go_wp2_with fail
    refine bodyPost_ret (v := .tuple #[.slice q2 nx.length m2, .agg #[.int .i64 ky, .slice (some ⟨g, 0, none⟩) nx.length nx.length, .slice r2 ny.length n2, .slice r3 iy.length n3], .int .i64 0]) ?_ rfl ⟨_, _, _, _, rfl, by rw [HT.out]; exact hA, g1⟩
    simp [results, Try.results66, go_sem, z0, z1, z2, z3]
end Go.Proofs.Ytcmnlnamgnbemaa
