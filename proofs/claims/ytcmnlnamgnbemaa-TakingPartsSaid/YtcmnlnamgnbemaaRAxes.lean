/-
  THE WALK of the reference's Axes.
-/
import Derived.Test.YtcmnlnamgnbemaaRef21
namespace Go.Proofs.Ytcmnlnamgnbemaa
set_option linter.unusedSimpArgs false
set_option linter.unusedVariables false
open Go.RowKit

/-- Each of the first numbers is in the list. -/
def complV (l : List Int) : Bool := (List.range (axGo 0 l).toNat).all fun (j : Nat) => l.any fun a => a == (j : Int)
/-- The reference's Axes, as a function. -/
def raxesV (x y : Arr) : Arr × Int :=
  if rrightV x ≠ 0 then (Arr.zero, 1) else if rrightV y ≠ 0 then (Arr.zero, 1) else
  match x, y with
  | .mk kx sx nx _, .mk ky sy ny iy => if kx ≠ 1 then (Arr.zero, 14) else if 1 < sx.length then (Arr.zero, 15) else if nx.length ≠ sy.length then (Arr.zero, 16) else if nx.any (outR sy.length) = true then (Arr.zero, 18) else
      if complV nx = false then (Arr.zero, 17) else (transV nx (.mk ky sy ny iy), 0)

theorem outR_iff {r a : Int} : outR r a = true ↔ a < 0 ∨ r ≤ a := by simp [outR]

set_option maxRecDepth 100000 in
set_option maxHeartbeats 8000000 in
theorem raxes_any (F G : Nat → Prop) (x y : Arr) (c0 c1 c2 c3 d0 d1 d2 d3 : Value) (w : World) (hx : ArrAt F w x c0 c1 c2 c3) (hy : ArrAt G w y d0 d1 d2 d3) :
    Calls Try.prog 34 #[.agg #[c0, c1, c2, c3], .agg #[d0, d1, d2, d3]] w fun e w' =>
      ∃ e0 e1 e2 e3, e = .returned (.tuple #[.agg #[e0, e1, e2, e3], .int .i64 (raxesV x y).2]) ∧ ArrAt (fun b => w.heap.size ≤ b) w' (raxesV x y).1 e0 e1 e2 e3 ∧ Ext w w' := by
  obtain ⟨kx, sx, nx, ix⟩ := x
  obtain ⟨ky, sy, ny, iy⟩ := y
  have hx' := hx
  have hy' := hy
  unfold ArrAt at hx' hy'
  obtain ⟨rfl, hkx, ⟨q1, m1, rfl, ⟨o1, o1', o1''⟩, i1⟩, ⟨q2, m2, rfl, ⟨o2, o2', o2''⟩, i2⟩, ⟨q3, m3, rfl, ⟨o3, o3', o3''⟩, i3⟩⟩ := hx'
  obtain ⟨rfl, hky, ⟨r1, n1, rfl, ⟨p1, p1', p1''⟩, j1⟩, ⟨r2, n2, rfl, ⟨p2, p2', p2''⟩, j2⟩, ⟨r3, n3, rfl, ⟨p3, p3', p3''⟩, j3⟩⟩ := hy'
  have HX := Lib.hid hx
  have HY := Lib.hid hy
  have HN := Lib.hid i2
  have HS := Lib.hid j1
  clear hx hy i1 i2 i3 j1 j2 j3
  generalize hres : raxesV (.mk kx sx nx ix) (.mk ky sy ny iy) = res
  have HR : Hid ((if rrightV (.mk kx sx nx ix) ≠ 0 then (Arr.zero, 1) else if rrightV (.mk ky sy ny iy) ≠ 0 then (Arr.zero, 1) else
      if kx ≠ 1 then (Arr.zero, 14) else if 1 < sx.length then (Arr.zero, 15) else if nx.length ≠ sy.length then (Arr.zero, 16) else if nx.any (outR sy.length) = true then (Arr.zero, 18) else
      if complV nx = false then (Arr.zero, 17) else (transV nx (.mk ky sy ny iy), 0)) = res) := by
    show _ = _
    rw [← hres]; rfl
  clear hres
  have ZR : ∀ (w2 : World) (z : Int), Ext w w2 → Box4 w2 (w.heap.size + 1 + 1) (.int .i64 0) (.slice none 0 0) (.slice none 0 0) (.slice none 0 0) → True := fun _ _ _ _ => trivial
  clear ZR
  go_enter Try.func34, Try.ntmps34
  go_wp2_with fail
  have hE0 : Ext w (((w.alloc (.cells #[.int .i64 kx, .slice q1 sx.length m1, .slice q2 nx.length m2, .slice q3 ix.length m3] 26)).alloc (.cells #[.int .i64 ky, .slice r1 sy.length n1, .slice r2 ny.length n2, .slice r3 iy.length n3] 26)).alloc (.cells #[.int .i64 0, .slice none 0 0, .slice none 0 0, .slice none 0 0] 26)) := (((Ext.refl _).alloc _).alloc _).alloc _
  have hB1 := ((box_new w (.int .i64 kx) (.slice q1 sx.length m1) (.slice q2 nx.length m2) (.slice q3 ix.length m3)).ext ((Ext.refl _).alloc (.cells #[.int .i64 ky, .slice r1 sy.length n1, .slice r2 ny.length n2, .slice r3 iy.length n3] 26))).ext ((Ext.refl _).alloc (.cells #[.int .i64 0, .slice none 0 0, .slice none 0 0, .slice none 0 0] 26))
  have hB2 := (box_new (w.alloc (.cells #[.int .i64 kx, .slice q1 sx.length m1, .slice q2 nx.length m2, .slice q3 ix.length m3] 26)) (.int .i64 ky) (.slice r1 sy.length n1) (.slice r2 ny.length n2) (.slice r3 iy.length n3)).ext ((Ext.refl _).alloc (.cells #[.int .i64 0, .slice none 0 0, .slice none 0 0, .slice none 0 0] 26))
  have hB3 := box_new ((w.alloc (.cells #[.int .i64 kx, .slice q1 sx.length m1, .slice q2 nx.length m2, .slice q3 ix.length m3] 26)).alloc (.cells #[.int .i64 ky, .slice r1 sy.length n1, .slice r2 ny.length n2, .slice r3 iy.length n3] 26)) (.int .i64 0) (.slice none 0 0) (.slice none 0 0) (.slice none 0 0)
  rw [World.size_alloc] at hB2
  rw [World.size_alloc, World.size_alloc] at hB3
  generalize ((w.alloc (.cells #[.int .i64 kx, .slice q1 sx.length m1, .slice q2 nx.length m2, .slice q3 ix.length m3] 26)).alloc (.cells #[.int .i64 ky, .slice r1 sy.length n1, .slice r2 ny.length n2, .slice r3 iy.length n3] 26)).alloc (.cells #[.int .i64 0, .slice none 0 0, .slice none 0 0, .slice none 0 0] 26) = w1 at hE0 hB1 hB2 hB3 ⊢
  refine (r3right_any F _ _ _ _ _ w1 (HX.out.ext hE0)).mono ?_
  rintro e w2 ⟨rfl, hE1⟩
  replace hB1 := hB1.ext hE1
  replace hB2 := hB2.ext hE1
  replace hB3 := hB3.ext hE1
  have hE2 := hE0.trans hE1
  clear hE0 hE1
  by_cases hw : rrightV (.mk kx sx nx ix) = 0
  · have hR1 := HR.out
    rw [if_neg (by simp [hw])] at hR1
    have HR1 := Lib.hid hR1
    have HRX := Lib.hid hw
    rw [hw]
    clear hR1 HR hw
    obtain ⟨t0, t1, t2, t3⟩ := hB2.cell
    go_wp2_with fail
    clear t0 t1 t2 t3
    refine (r3right_any G _ _ _ _ _ w2 (HY.out.ext hE2)).mono ?_
    rintro e w3 ⟨rfl, hE3⟩
    replace hB1 := hB1.ext hE3
    replace hB2 := hB2.ext hE3
    replace hB3 := hB3.ext hE3
    have hE4 := hE2.trans hE3
    have hlt3 := hE3.lt
    clear hE2 hE3
    by_cases hwy : rrightV (.mk ky sy ny iy) = 0
    · have hR1 := HR1.out
      rw [if_neg (by simp [hwy])] at hR1
      have HR2 := Lib.hid hR1
      have HALL := Lib.hid (rright_all hwy)
      rw [hwy]
      clear hR1 HR1 hwy
      obtain ⟨s0, s1, s2, s3⟩ := hB1.cell
      obtain ⟨t0, t1, t2, t3⟩ := hB2.cell
      obtain ⟨x0, x1, x2, x3⟩ := hB3.cell
      have y0 := hB3.free 0
      have y1 := hB3.free 1
      have y2 := hB3.free 2
      have y3 := hB3.free 3
      by_cases hk : kx = 1
      · have hR1 := HR2.out
        rw [if_neg (by simp [hk])] at hR1
        have HR3 := Lib.hid hR1
        have hkb : (kx != 1) = false := by simpa using hk
        clear hR1 HR2 hk
        by_cases hl1 : 1 < sx.length
        · have hR1 := HR3.out
          rw [if_pos hl1] at hR1
          subst hR1
          have hl1' : (1 : Int) < sx.length := by omega
          go_wp2_with fail
          obtain ⟨g1, g2, g3⟩ := hB3.put4 hE4 (by omega) (.int .i64 0) (.slice none 0 0) (.slice none 0 0) (.slice none 0 0)
          revert g1 g2 g3
          generalize ((((w3.setCell ⟨w.heap.size + 1 + 1, 0, none⟩ (.int .i64 0)).setCell ⟨w.heap.size + 1 + 1, 1, none⟩ (.slice none 0 0)).setCell ⟨w.heap.size + 1 + 1, 2, none⟩ (.slice none 0 0)).setCell ⟨w.heap.size + 1 + 1, 3, none⟩ (.slice none 0 0)) = w9
          intro g1 g2 g3
          obtain ⟨z0, z1, z2, z3⟩ := g2.cell
          refine bodyPost_ret (v := .tuple #[.agg #[(.int .i64 0), (.slice none 0 0), (.slice none 0 0), (.slice none 0 0)], .int .i64 15]) ?_ rfl ⟨_, _, _, _, rfl, Arr.zero_at _ _, g1⟩
          simp [results, Try.results34, go_sem, z0, z1, z2, z3]
        · have hR1 := HR3.out
          rw [if_neg hl1] at hR1
          have HR4 := Lib.hid hR1
          have hl1' : ¬ (1 : Int) < sx.length := by omega
          clear hR1 HR3
          by_cases hln : nx.length = sy.length
          · have hR1 := HR4.out
            rw [if_neg (by simp [hln])] at hR1
            have HR5 := Lib.hid hR1
            have HLN := Lib.hid hln
            have hlb : ((nx.length : Int) != sy.length) = false := by simp [hln]
            have h8 : sy.length ≤ 8 := HALL.out.1
            have hn8 : nx.length ≤ 8 := by omega
            clear hR1 HR4 hln
            go_wp2_with fail
            go_loopw [6, 7] (fun mv i wr => ∃ (q : Nat) (acc : Int), q ≤ nx.length ∧ i = .int .i64 q ∧ mv = .int .i64 (acc - 1) ∧ 0 ≤ acc ∧ acc ≤ 8 ∧ Ext w3 wr ∧ Hid (axGo acc (nx.drop q) = axGo 0 nx) ∧ Hid ((nx.drop q).any (outR sy.length) = nx.any (outR sy.length)) ∧ Hid (∀ a ∈ nx.take q, 0 ≤ a ∧ a < sy.length)) (fun _ i _ => nx.length - (intOf i).toNat)
            case atStart => exact ⟨0, 0, Nat.zero_le _, rfl, rfl, by omega, by omega, Ext.refl _, rfl, rfl, by intro a ha; simp at ha⟩
            case round =>
              obtain ⟨q, acc, hq, rfl, rfl, hc0, hc1, hE, HA, HO, HT⟩ := hrel
              clear s0 s1 s2 s3 t0 t1 t2 t3 x0 x1 x2 x3 y0 y1 y2 y3
              obtain ⟨s0, s1, s2, s3⟩ := (hB1.ext hE).cell
              obtain ⟨t0, t1, t2, t3⟩ := (hB2.ext hE).cell
              by_cases hlt : q < nx.length
              · obtain ⟨b1, f1, rfl, ax1, ax2, ax3⟩ := (HN.out.ext (hE4.trans hE)).get hlt
                have HD := Lib.hid (drop_getD hlt)
                have HTK := Lib.hid (List.take_succ_eq_append_getElem hlt)
                have HGE := Lib.hid (show nx[q] = nx.getD q 0 by simp [List.getD, hlt])
                generalize nx.getD q 0 = a at *
                have HO' : Hid ((outR sy.length a || (nx.drop (q + 1)).any (outR sy.length)) = nx.any (outR sy.length)) := by
                  have := HO.out
                  rw [HD.out, List.any_cons] at this
                  exact this
                have HA' : Hid (axGo (max acc (a + 1)) (nx.drop (q + 1)) = axGo 0 nx) := by
                  have := HA.out
                  rw [HD.out, axGo] at this
                  exact this
                clear HO HA HD
                by_cases ha : a < 0
                · have hR1 := HR5.out
                  rw [if_pos (by rw [← HO'.out, outR_iff.2 (.inl ha), Bool.true_or])] at hR1
                  subst hR1
                  clear HO' HA' HT HTK HGE
                  go_wp2_with fail
                  go_quiet (fail)
                  have hBq := (hB3.ext hE).ext ((Ext.refl _).drewN nq)
                  have hEq := (hE4.trans hE).drewN nq
                  obtain ⟨x0, x1, x2, x3⟩ := hBq.cell
                  have y0 := hBq.free 0
                  have y1 := hBq.free 1
                  have y2 := hBq.free 2
                  have y3 := hBq.free 3
                  generalize wr.drewN nq = wr' at *
                  go_wp2_with fail
                  obtain ⟨g1, g2, g3⟩ := hBq.put4 hEq (by omega) (.int .i64 0) (.slice none 0 0) (.slice none 0 0) (.slice none 0 0)
                  revert g1 g2 g3
                  generalize ((((wr'.setCell ⟨w.heap.size + 1 + 1, 0, none⟩ (.int .i64 0)).setCell ⟨w.heap.size + 1 + 1, 1, none⟩ (.slice none 0 0)).setCell ⟨w.heap.size + 1 + 1, 2, none⟩ (.slice none 0 0)).setCell ⟨w.heap.size + 1 + 1, 3, none⟩ (.slice none 0 0)) = w9
                  intro g1 g2 g3
                  obtain ⟨z0, z1, z2, z3⟩ := g2.cell
                  refine bodyPost_ret (v := .tuple #[.agg #[(.int .i64 0), (.slice none 0 0), (.slice none 0 0), (.slice none 0 0)], .int .i64 18]) ?_ rfl ⟨_, _, _, _, rfl, Arr.zero_at _ _, g1⟩
                  simp [results, Try.results34, go_sem, z0, z1, z2, z3]
                · by_cases hb : (sy.length : Int) ≤ a
                  · have hR1 := HR5.out
                    rw [if_pos (by rw [← HO'.out, outR_iff.2 (.inr hb), Bool.true_or])] at hR1
                    subst hR1
                    clear HO' HA' HT HTK HGE
                    go_wp2_with fail
                    go_quiet (fail)
                    have hBq := (hB3.ext hE).ext ((Ext.refl _).drewN nq)
                    have hEq := (hE4.trans hE).drewN nq
                    obtain ⟨x0, x1, x2, x3⟩ := hBq.cell
                    have y0 := hBq.free 0
                    have y1 := hBq.free 1
                    have y2 := hBq.free 2
                    have y3 := hBq.free 3
                    generalize wr.drewN nq = wr' at *
                    go_wp2_with fail
                    obtain ⟨g1, g2, g3⟩ := hBq.put4 hEq (by omega) (.int .i64 0) (.slice none 0 0) (.slice none 0 0) (.slice none 0 0)
                    revert g1 g2 g3
                    generalize ((((wr'.setCell ⟨w.heap.size + 1 + 1, 0, none⟩ (.int .i64 0)).setCell ⟨w.heap.size + 1 + 1, 1, none⟩ (.slice none 0 0)).setCell ⟨w.heap.size + 1 + 1, 2, none⟩ (.slice none 0 0)).setCell ⟨w.heap.size + 1 + 1, 3, none⟩ (.slice none 0 0)) = w9
                    intro g1 g2 g3
                    obtain ⟨z0, z1, z2, z3⟩ := g2.cell
                    refine bodyPost_ret (v := .tuple #[.agg #[(.int .i64 0), (.slice none 0 0), (.slice none 0 0), (.slice none 0 0)], .int .i64 18]) ?_ rfl ⟨_, _, _, _, rfl, Arr.zero_at _ _, g1⟩
                    simp [results, Try.results34, go_sem, z0, z1, z2, z3]
                  · have hof : outR sy.length a = false := by
                      cases hc : outR sy.length a with
                      | true => have := outR_iff.1 hc; omega
                      | false => rfl
                    have HO2 : Hid ((nx.drop (q + 1)).any (outR sy.length) = nx.any (outR sy.length)) := by
                      have := HO'.out
                      rw [hof, Bool.false_or] at this
                      exact this
                    have HT2 : Hid (∀ b ∈ nx.take (q + 1), 0 ≤ b ∧ b < sy.length) := by
                      intro b hb'
                      rw [HTK.out, HGE.out] at hb'
                      rcases List.mem_append.1 hb' with h | h
                      · exact HT.out b h
                      · rw [List.mem_singleton] at h; omega
                    have hmx : (if (acc : Int) - 1 < a then a else acc - 1) = max acc (a + 1) - 1 := by split <;> omega
                    have HMX := Lib.hid hmx
                    clear HO' HT HTK HGE hof hmx
                    go_wp2_with fail
                    go_quiet (fail)
                    have hBr := hB1.ext (hE.drewN nq)
                    clear s0 s1 s2 s3 t0 t1 t2 t3
                    obtain ⟨s0, s1, s2, s3⟩ := hBr.cell
                    have ax4 := ((Ext.refl wr).drewN nq).cell ax1
                    have hE' := hE.drewN nq
                    generalize wr.drewN nq = wr' at *
                    clear ax1 hE
                    go_wp2_with fail
                    go_roundw
                    case rel => exact ⟨q + 1, max acc (a + 1), by omega, by go_num, by rw [HMX.out], by omega, by omega, hE', HA'.out, HO2.out, HT2.out⟩
                    case measure => simp [intOf]; omega
              · have HTA : Hid (∀ a ∈ nx, 0 ≤ a ∧ a < sy.length) := by
                  have := HT.out
                  rw [List.take_of_length_le (by omega)] at this
                  exact this
                have hacc := HA.out
                rw [List.drop_of_length_le (by omega), axGo] at hacc
                have hR1 := HR5.out
                rw [if_neg (by rw [← HO.out, List.drop_of_length_le (by omega)]; simp)] at hR1
                have HR6 := Lib.hid hR1
                have HALT := Lib.hid (axGo_lt nx 0)
                obtain ⟨ax, rfl⟩ := Int.eq_ofNat_of_zero_le hc0
                have HAX : Hid ((axGo 0 nx).toNat = ax) := by
                  show _ = _
                  rw [← hacc]; rfl
                clear HA HO HT hacc hR1 HR5
                go_wp2_with fail
                obtain ⟨wo, rfl⟩ : ∃ wo : World, wo = wr := ⟨_, rfl⟩
                go_loopw [8, 9, 10] (fun jv _ _ wq => ∃ (j : Nat), j ≤ ax ∧ jv = .int .i64 j ∧ Ext wo wq ∧ Hid (∀ i : Nat, i < j → (nx.any fun a => a == (i : Int)) = true)) (fun jv _ _ _ => ax - (intOf jv).toNat)
                case atStart => exact ⟨0, Nat.zero_le _, rfl, Ext.refl _, fun i hi => by omega⟩
                case round =>
                  obtain ⟨j, hj, rfl, hE5, HF⟩ := hrel
                  clear s0 s1 s2 s3 t0 t1 t2 t3
                  have hE6 := hE.trans hE5
                  obtain ⟨s0, s1, s2, s3⟩ := (hB1.ext hE6).cell
                  obtain ⟨t0, t1, t2, t3⟩ := (hB2.ext hE6).cell
                  by_cases hlj : j < ax
                  · have hlj' : (j : Int) ≤ (ax : Int) - 1 := by omega
                    go_wp2_with fail
                    go_loop [9, 10] (fun fv i => ∃ (p : Nat) (b : Bool), p ≤ nx.length ∧ i = .int .i64 p ∧ fv = .bool b ∧ Hid ((b || (nx.drop p).any fun a => a == (j : Int)) = nx.any fun a => a == (j : Int))) (fun _ i => nx.length - (intOf i).toNat)
                    case atStart => exact ⟨0, false, Nat.zero_le _, rfl, rfl, by simp [Hid]⟩
                    case round =>
                      obtain ⟨p, b, hp, rfl, rfl, HG⟩ := hrel
                      by_cases hlp : p < nx.length
                      · obtain ⟨b1, f1, rfl, ax1, ax2, ax3⟩ := (HN.out.ext (hE4.trans hE6)).get hlp
                        have HD := Lib.hid (drop_getD hlp)
                        generalize nx.getD p 0 = a at *
                        have HG' : Hid (((b || a == (j : Int)) || (nx.drop (p + 1)).any fun a => a == (j : Int)) = nx.any fun a => a == (j : Int)) := by
                          have := HG.out
                          rw [HD.out, List.any_cons, ← Bool.or_assoc] at this
                          exact this
                        clear HG HD
                        cases b with
                        | true =>
                          go_wp2_with fail
                          go_round
                          case rel => exact ⟨p + 1, true, by omega, by go_num, rfl, HG'.out⟩
                          case measure => simp [intOf]; omega
                        | false =>
                          go_wp2_with fail
                          go_round
                          case rel => exact ⟨p + 1, a == (j : Int), by omega, by go_num, rfl, HG'.out⟩
                          case measure => simp [intOf]; omega
                      · have hb := HG.out
                        rw [List.drop_of_length_le (by omega), List.any_nil, Bool.or_false] at hb
                        cases b with
                        | true =>
                          have HF2 : Hid (∀ i : Nat, i < j + 1 → (nx.any fun a => a == (i : Int)) = true) := by
                            intro i hi
                            by_cases he : i = j
                            · rw [he]; exact hb.symm
                            · exact HF.out i (by omega)
                          clear HG hb HF
                          go_wp2_with fail
                          go_roundw
                          case rel => exact ⟨j + 1, by omega, by go_num, hE5, HF2.out⟩
                          case measure => simp [intOf]; omega
                        | false =>
                          have hcm : complV nx = false := by
                            unfold complV
                            rw [HAX.out, List.all_eq_false]
                            exact ⟨j, List.mem_range.2 hlj, by rw [← hb]; simp⟩
                          have hR1 := HR6.out
                          rw [if_pos hcm] at hR1
                          subst hR1
                          clear HG hb hcm
                          have hBq := hB3.ext hE6
                          have hEq := hE4.trans hE6
                          obtain ⟨x0, x1, x2, x3⟩ := hBq.cell
                          have y0 := hBq.free 0
                          have y1 := hBq.free 1
                          have y2 := hBq.free 2
                          have y3 := hBq.free 3
                          generalize wr = wr' at *
                          go_wp2_with fail
                          obtain ⟨g1, g2, g3⟩ := hBq.put4 hEq (by omega) (.int .i64 0) (.slice none 0 0) (.slice none 0 0) (.slice none 0 0)
                          revert g1 g2 g3
                          generalize ((((wr'.setCell ⟨w.heap.size + 1 + 1, 0, none⟩ (.int .i64 0)).setCell ⟨w.heap.size + 1 + 1, 1, none⟩ (.slice none 0 0)).setCell ⟨w.heap.size + 1 + 1, 2, none⟩ (.slice none 0 0)).setCell ⟨w.heap.size + 1 + 1, 3, none⟩ (.slice none 0 0)) = w9
                          intro g1 g2 g3
                          obtain ⟨z0, z1, z2, z3⟩ := g2.cell
                          refine bodyPost_ret (v := .tuple #[.agg #[(.int .i64 0), (.slice none 0 0), (.slice none 0 0), (.slice none 0 0)], .int .i64 17]) ?_ rfl ⟨_, _, _, _, rfl, Arr.zero_at _ _, g1⟩
                          simp [results, Try.results34, go_sem, z0, z1, z2, z3]
                  · have hcm : complV nx ≠ false := by
                      unfold complV
                      rw [HAX.out, ne_eq, Bool.not_eq_false, List.all_eq_true]
                      intro i hi
                      exact HF.out i (by have := List.mem_range.1 hi; omega)
                    have hR1 := HR6.out
                    rw [if_neg hcm] at hR1
                    have HRES := Lib.hid hR1
                    have hlj' : ¬ (j : Int) ≤ (ax : Int) - 1 := by omega
                    clear hcm hR1 HR6 HF
                    go_wp2_with fail
                    have hEq := hE4.trans hE6
                    obtain ⟨a1, a2, a3, a4⟩ := HALL.out
                    refine (transposed_any F G q2 m2 nx sy ky ny iy _ _ _ _ wr (HN.out.ext hEq) (HY.out.ext hEq) HLN.out a1 a2 HTA.out a3 a4).mono ?_
                    rintro e w4 ⟨k0, k1, k2, k3, rfl, hA, hE7⟩
                    obtain ⟨kr, u1, v1, z1, u2, v2, z2, u3, v3, z3, rfl, rfl, rfl, rfl⟩ := hA.form
                    have hE8 := hEq.trans hE7
                    have hBq := hB3.ext (hE6.trans hE7)
                    clear s0 s1 s2 s3 t0 t1 t2 t3 a2 a3 a4
                    obtain ⟨x0, x1, x2, x3⟩ := hBq.cell
                    have y0 := hBq.free 0
                    have y1 := hBq.free 1
                    have y2 := hBq.free 2
                    have y3 := hBq.free 3
                    have hl9 := hEq.lt
                    have hb9 := (hB3.ext hE6).lt
                    go_wp2_with fail
                    obtain ⟨g1, g2, g3⟩ := hBq.put4 hE8 (by omega) (.int .i64 kr) (.slice u1 v1 z1) (.slice u2 v2 z2) (.slice u3 v3 z3)
                    revert g1 g2 g3
                    generalize ((((w4.setCell ⟨w.heap.size + 1 + 1, 0, none⟩ (.int .i64 kr)).setCell ⟨w.heap.size + 1 + 1, 1, none⟩ (.slice u1 v1 z1)).setCell ⟨w.heap.size + 1 + 1, 2, none⟩ (.slice u2 v2 z2)).setCell ⟨w.heap.size + 1 + 1, 3, none⟩ (.slice u3 v3 z3)) = w9
                    intro g1 g2 g3
                    obtain ⟨z0', z1', z2', z3'⟩ := g2.cell
                    have hA9 := ArrAt.mono (G := fun b => w.heap.size ≤ b) (w' := w9) (fun b hb _ => ⟨by omega, g3 b (by omega)⟩) _ _ _ _ _ hA
                    refine bodyPost_ret (v := .tuple #[.agg #[(.int .i64 kr), (.slice u1 v1 z1), (.slice u2 v2 z2), (.slice u3 v3 z3)], .int .i64 0]) ?_ rfl ⟨_, _, _, _, by rw [← HRES.out], by rw [← HRES.out]; exact hA9, g1⟩
                    simp [results, Try.results34, go_sem, z0', z1', z2', z3']
          · have hR1 := HR4.out
            rw [if_pos hln] at hR1
            subst hR1
            have hlb : ((nx.length : Int) != sy.length) = true := by simpa using (show ¬ (nx.length : Int) = sy.length by omega)
            go_wp2_with fail
            obtain ⟨g1, g2, g3⟩ := hB3.put4 hE4 (by omega) (.int .i64 0) (.slice none 0 0) (.slice none 0 0) (.slice none 0 0)
            revert g1 g2 g3
            generalize ((((w3.setCell ⟨w.heap.size + 1 + 1, 0, none⟩ (.int .i64 0)).setCell ⟨w.heap.size + 1 + 1, 1, none⟩ (.slice none 0 0)).setCell ⟨w.heap.size + 1 + 1, 2, none⟩ (.slice none 0 0)).setCell ⟨w.heap.size + 1 + 1, 3, none⟩ (.slice none 0 0)) = w9
            intro g1 g2 g3
            obtain ⟨z0, z1, z2, z3⟩ := g2.cell
            refine bodyPost_ret (v := .tuple #[.agg #[(.int .i64 0), (.slice none 0 0), (.slice none 0 0), (.slice none 0 0)], .int .i64 16]) ?_ rfl ⟨_, _, _, _, rfl, Arr.zero_at _ _, g1⟩
            simp [results, Try.results34, go_sem, z0, z1, z2, z3]
      · have hR1 := HR2.out
        rw [if_pos hk] at hR1
        subst hR1
        have hkb : (kx != 1) = true := by simpa using hk
        clear hk
        go_wp2_with fail
        obtain ⟨g1, g2, g3⟩ := hB3.put4 hE4 (by omega) (.int .i64 0) (.slice none 0 0) (.slice none 0 0) (.slice none 0 0)
        revert g1 g2 g3
        generalize ((((w3.setCell ⟨w.heap.size + 1 + 1, 0, none⟩ (.int .i64 0)).setCell ⟨w.heap.size + 1 + 1, 1, none⟩ (.slice none 0 0)).setCell ⟨w.heap.size + 1 + 1, 2, none⟩ (.slice none 0 0)).setCell ⟨w.heap.size + 1 + 1, 3, none⟩ (.slice none 0 0)) = w9
        intro g1 g2 g3
        obtain ⟨z0, z1, z2, z3⟩ := g2.cell
        refine bodyPost_ret (v := .tuple #[.agg #[(.int .i64 0), (.slice none 0 0), (.slice none 0 0), (.slice none 0 0)], .int .i64 14]) ?_ rfl ⟨_, _, _, _, rfl, Arr.zero_at _ _, g1⟩
        simp [results, Try.results34, go_sem, z0, z1, z2, z3]
    · have hR1 := HR1.out
      rw [if_pos hwy] at hR1
      subst hR1
      have hrb : (rrightV (.mk ky sy ny iy) != 0) = true := by simpa using hwy
      generalize rrightV (.mk ky sy ny iy) = rv at *
      obtain ⟨x0, x1, x2, x3⟩ := hB3.cell
      have y0 := hB3.free 0
      have y1 := hB3.free 1
      have y2 := hB3.free 2
      have y3 := hB3.free 3
      clear hwy HR1
      go_wp2_with fail
      obtain ⟨g1, g2, g3⟩ := hB3.put4 hE4 (by omega) (.int .i64 0) (.slice none 0 0) (.slice none 0 0) (.slice none 0 0)
      revert g1 g2 g3
      generalize ((((w3.setCell ⟨w.heap.size + 1 + 1, 0, none⟩ (.int .i64 0)).setCell ⟨w.heap.size + 1 + 1, 1, none⟩ (.slice none 0 0)).setCell ⟨w.heap.size + 1 + 1, 2, none⟩ (.slice none 0 0)).setCell ⟨w.heap.size + 1 + 1, 3, none⟩ (.slice none 0 0)) = w9
      intro g1 g2 g3
      obtain ⟨z0, z1, z2, z3⟩ := g2.cell
      refine bodyPost_ret (v := .tuple #[.agg #[(.int .i64 0), (.slice none 0 0), (.slice none 0 0), (.slice none 0 0)], .int .i64 1]) ?_ rfl ⟨_, _, _, _, rfl, Arr.zero_at _ _, g1⟩
      simp [results, Try.results34, go_sem, z0, z1, z2, z3]
  · have hR1 := HR.out
    rw [if_pos hw] at hR1
    subst hR1
    have hrb : (rrightV (.mk kx sx nx ix) != 0) = true := by simpa using hw
    generalize rrightV (.mk kx sx nx ix) = rv at *
    obtain ⟨x0, x1, x2, x3⟩ := hB3.cell
    have y0 := hB3.free 0
    have y1 := hB3.free 1
    have y2 := hB3.free 2
    have y3 := hB3.free 3
    clear hw HR
    go_wp2_with fail
    obtain ⟨g1, g2, g3⟩ := hB3.put4 hE2 (by omega) (.int .i64 0) (.slice none 0 0) (.slice none 0 0) (.slice none 0 0)
    revert g1 g2 g3
    generalize ((((w2.setCell ⟨w.heap.size + 1 + 1, 0, none⟩ (.int .i64 0)).setCell ⟨w.heap.size + 1 + 1, 1, none⟩ (.slice none 0 0)).setCell ⟨w.heap.size + 1 + 1, 2, none⟩ (.slice none 0 0)).setCell ⟨w.heap.size + 1 + 1, 3, none⟩ (.slice none 0 0)) = w9
    intro g1 g2 g3
    obtain ⟨z0, z1, z2, z3⟩ := g2.cell
    refine bodyPost_ret (v := .tuple #[.agg #[(.int .i64 0), (.slice none 0 0), (.slice none 0 0), (.slice none 0 0)], .int .i64 1]) ?_ rfl ⟨_, _, _, _, rfl, Arr.zero_at _ _, g1⟩
    simp [results, Try.results34, go_sem, z0, z1, z2, z3]
end Go.Proofs.Ytcmnlnamgnbemaa
