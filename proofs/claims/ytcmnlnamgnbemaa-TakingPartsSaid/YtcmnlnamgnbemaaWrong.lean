/-
  transposing.wrong: the error of the arguments of Axes. (Printed by gen_axes.py.)
-/
import Derived.Test.YtcmnlnamgnbemaaDims
import Derived.Test.YtcmnlnamgnbemaaVisit
namespace Go.Proofs.Ytcmnlnamgnbemaa
set_option linter.unusedSimpArgs false
set_option linter.unusedVariables false
open Go.RowKit

def outR (r : Int) (n : Int) : Bool := decide (n < 0) || decide (r ≤ n)
theorem wrong1_any (b : Nat) (r n : Int) (w : World) (hc : w.cell? ⟨b, 0, none⟩ = some (.int .i64 r)) :
    Calls Try.prog 88 #[.int .i64 n, .pointer (some ⟨b, 0, none⟩)] w fun e w' => e = .returned (.bool (outR r n)) ∧ w = w' := by
  go_enter Try.func88, Try.ntmps88
  by_cases h : n < 0
  · have h2 : outR r n = true := by simp [outR, h]
    rw [h2]
    go_wp2
    go_ret
    exact ⟨rfl, rfl⟩
  · have h2 : outR r n = decide (r ≤ n) := by simp [outR, h]
    rw [h2]
    go_wp2
    go_ret
    exact ⟨rfl, rfl⟩


set_option maxHeartbeats 400000 in
theorem indexFunc_wrong (F : Nat → Prop) (p : Option Addr) (c : Nat) (s : List Int) (bq : Nat) (r : Int) (w : World) (h : IntsAt F w p s) (hn : s.length ≤ lenMax) (hcell : w.cell? ⟨bq, 0, none⟩ = some (.int .i64 r)) :
    Calls Try.prog 101 #[.slice p s.length c, .func (.func 88) #[] #[.pointer (some ⟨bq, 0, none⟩)]] w fun e w' => e = .returned (.int .i64 (idxGo (outR r) 0 s)) ∧ w = w' := by
  unfold lenMax at hn
  generalize hans : idxGo (outR r) 0 s = ans
  have HANS := Lib.hid hans
  clear hans
  go_enter Try.func101, Try.ntmps101
  go_wp2
  go_loop [8] (fun i => ∃ (k : Nat), k ≤ s.length ∧ i = .int .i64 k ∧ Hid (idxGo (outR r) k (s.drop k) = ans)) (fun i => s.length - (intOf i).toNat)
  case atStart => exact ⟨0, Nat.zero_le _, rfl, HANS.out⟩
  case round =>
    obtain ⟨k, hk, rfl, HR⟩ := hrel
    clear HANS
    by_cases hlt : k < s.length
    · obtain ⟨b, off, rfl, hc, _, _⟩ := h.get hlt
      have HD := hid_intro (drop_getD hlt)
      clear h
      generalize s.getD k 0 = d at *
      by_cases h3 : (outR r) d = true
      · have HF : Hid ((k : Int) = ans) := by
          have := HR.out
          rw [HD.out, idxGo, if_pos h3] at this
          exact this
        have H3 := Lib.hid h3
        clear HR HD h3
        go_wp2_with (go_at_call 88; refine (wrong1_any bq r d _ hcell).mono ?_; rintro e w' ⟨rfl, rfl⟩; rw [H3.out])
        go_ret
        exact ⟨ret_int HF.out, rfl⟩
      · have HF : Hid (idxGo (outR r) ((k + 1 : Nat) : Int) (s.drop (k + 1)) = ans) := by
          have := HR.out
          rw [HD.out, idxGo, if_neg h3] at this
          rw [← this]; congr 1
        have H3 : Hid ((outR r) d = false) := by
          show (outR r) d = false
          exact Bool.eq_false_iff.2 h3
        clear HR HD h3
        go_wp2_with (go_at_call 88; refine (wrong1_any bq r d _ hcell).mono ?_; rintro e w' ⟨rfl, rfl⟩; rw [H3.out])
        go_round
        case rel => exact ⟨k + 1, by omega, by go_num, HF⟩
        case measure => simp [intOf]; omega
    · have HF : Hid ((-1 : Int) = ans) := by
        have := HR.out
        rw [List.drop_of_length_le (by omega), idxGo] at this
        exact this
      clear HR
      go_wp2
      go_ret
      exact ⟨ret_int HF.out, rfl⟩

theorem containsFunc_wrong (F : Nat → Prop) (p : Option Addr) (c : Nat) (s : List Int) (bq : Nat) (r : Int) (w : World) (h : IntsAt F w p s) (hn : s.length ≤ lenMax) (hcell : w.cell? ⟨bq, 0, none⟩ = some (.int .i64 r)) :
    Calls Try.prog 87 #[.slice p s.length c, .func (.func 88) #[] #[.pointer (some ⟨bq, 0, none⟩)]] w fun e w' => e = .returned (.bool (s.any (outR r))) ∧ w = w' := by
  have HB := Lib.hid (idxGo_neg (outR r) s 0 (by omega))
  go_enter Try.func87, Try.ntmps87
  go_wp2_with (go_at_call 101; refine (indexFunc_wrong F p c s bq r _ h hn hcell).mono ?_; rintro e w' ⟨rfl, rfl⟩)
  go_ret
  exact ⟨ret_bool HB.out, rfl⟩


/-- The error of the arguments of Axes. -/
def wrongV (x y : Arr) : Int :=
  if rightV x ≠ 0 ∨ rightV y ≠ 0 then 1 else
  match x, y with
  | .mk kx sx nx _, .mk _ sy _ _ => if kx ≠ 1 then 14 else if 1 < sx.length then 15 else if nx.length ≠ sy.length then 16 else if nx.any (outR sy.length) = true then 18 else 0

set_option maxRecDepth 100000 in
set_option maxHeartbeats 4000000 in
/-- transposing.wrong. -/
theorem wrong_any (F G : Nat → Prop) (x y : Arr) (c0 c1 c2 c3 d0 d1 d2 d3 : Value) (w : World) (hx : ArrAt F w x c0 c1 c2 c3) (hy : ArrAt G w y d0 d1 d2 d3) :
    Calls Try.prog 61 #[.agg #[c0, c1, c2, c3], .agg #[d0, d1, d2, d3]] w fun e w' => e = .returned (.int .i64 (wrongV x y)) ∧ Ext w w' := by
  obtain ⟨kx, sx, nx, ix⟩ := x
  obtain ⟨ky, sy, ny, iy⟩ := y
  have hx' := hx
  have hy' := hy
  unfold ArrAt at hx' hy'
  obtain ⟨rfl, hkx, ⟨q1, m1, rfl, ⟨o1, o1', o1''⟩, i1⟩, ⟨q2, m2, rfl, ⟨o2, o2', o2''⟩, i2⟩, ⟨q3, m3, rfl, ⟨o3, o3', o3''⟩, i3⟩⟩ := hx'
  obtain ⟨rfl, hky, ⟨r1, n1, rfl, ⟨p1, p1', p1''⟩, j1⟩, ⟨r2, n2, rfl, ⟨p2, p2', p2''⟩, j2⟩, ⟨r3, n3, rfl, ⟨p3, p3', p3''⟩, j3⟩⟩ := hy'
  have HX := Lib.hid hx
  have HY := Lib.hid hy
  have HN := Lib.hid i2
  generalize hres : wrongV (.mk kx sx nx ix) (.mk ky sy ny iy) = res
  have HR : Hid ((if rightV (.mk kx sx nx ix) ≠ 0 ∨ rightV (.mk ky sy ny iy) ≠ 0 then 1 else if kx ≠ 1 then 14 else if 1 < sx.length then 15 else if nx.length ≠ sy.length then 16 else if nx.any (outR sy.length) = true then 18 else 0) = res) := by
    show _ = _
    rw [← hres]; rfl
  clear hres hx hy i1 i2 i3 j1 j2 j3
  go_enter Try.func61, Try.ntmps61
  go_wp2_with fail
  have hE0 : Ext w (((w.alloc (.cells #[.int .i64 kx, .slice q1 sx.length m1, .slice q2 nx.length m2, .slice q3 ix.length m3] 26)).alloc (.cells #[.int .i64 ky, .slice r1 sy.length n1, .slice r2 ny.length n2, .slice r3 iy.length n3] 26)).alloc (.cells #[.int .i64 sy.length] 3)) := (((Ext.refl _).alloc _).alloc _).alloc _
  have hB1 := ((box_new w (.int .i64 kx) (.slice q1 sx.length m1) (.slice q2 nx.length m2) (.slice q3 ix.length m3)).ext ((Ext.refl _).alloc (.cells #[.int .i64 ky, .slice r1 sy.length n1, .slice r2 ny.length n2, .slice r3 iy.length n3] 26))).ext ((Ext.refl _).alloc (.cells #[.int .i64 sy.length] 3))
  have hB2 := (box_new (w.alloc (.cells #[.int .i64 kx, .slice q1 sx.length m1, .slice q2 nx.length m2, .slice q3 ix.length m3] 26)) (.int .i64 ky) (.slice r1 sy.length n1) (.slice r2 ny.length n2) (.slice r3 iy.length n3)).ext ((Ext.refl _).alloc (.cells #[.int .i64 sy.length] 3))
  have hC : (((w.alloc (.cells #[.int .i64 kx, .slice q1 sx.length m1, .slice q2 nx.length m2, .slice q3 ix.length m3] 26)).alloc (.cells #[.int .i64 ky, .slice r1 sy.length n1, .slice r2 ny.length n2, .slice r3 iy.length n3] 26)).alloc (.cells #[.int .i64 sy.length] 3)).cell? ⟨w.heap.size + 1 + 1, 0, none⟩ = some (.int .i64 sy.length) := by
    have hg := heap_alloc_new ((w.alloc (.cells #[.int .i64 kx, .slice q1 sx.length m1, .slice q2 nx.length m2, .slice q3 ix.length m3] 26)).alloc (.cells #[.int .i64 ky, .slice r1 sy.length n1, .slice r2 ny.length n2, .slice r3 iy.length n3] 26)) (.cells #[.int .i64 sy.length] 3)
    rw [World.size_alloc, World.size_alloc] at hg
    exact (cell_of_row _ _ 0 _ _ _ hg).trans rfl
  rw [World.size_alloc] at hB2
  generalize ((w.alloc (.cells #[.int .i64 kx, .slice q1 sx.length m1, .slice q2 nx.length m2, .slice q3 ix.length m3] 26)).alloc (.cells #[.int .i64 ky, .slice r1 sy.length n1, .slice r2 ny.length n2, .slice r3 iy.length n3] 26)).alloc (.cells #[.int .i64 sy.length] 3) = w1 at hE0 hB1 hB2 hC ⊢
  refine (right_any F _ _ _ _ _ w1 (HX.out.ext hE0)).mono ?_
  rintro e w2 ⟨rfl, hE1⟩
  have hB1' := hB1.ext hE1
  have hB2' := hB2.ext hE1
  have hC' := hE1.cell hC
  have hE2 := hE0.trans hE1
  clear hB1 hB2 hC hE0 hE1
  obtain ⟨s0, s1, s2, s3⟩ := hB1'.cell
  obtain ⟨t0, t1, t2, t3⟩ := hB2'.cell
  by_cases hr : rightV (.mk kx sx nx ix) = 0
  · have HR0 := Lib.hid hr
    rw [hr]
    go_wp2_with fail
    refine (right_any G _ _ _ _ _ w2 (HY.out.ext hE2)).mono ?_
    rintro e w3 ⟨rfl, hE3⟩
    have hB1 := hB1'.ext hE3
    have hB2 := hB2'.ext hE3
    have hC := hE3.cell hC'
    have hE4 := hE2.trans hE3
    clear hB1' hB2' hC' s0 s1 s2 s3 t0 t1 t2 t3 hE2 hE3
    obtain ⟨s0, s1, s2, s3⟩ := hB1.cell
    obtain ⟨t0, t1, t2, t3⟩ := hB2.cell
    clear hr
    by_cases hq : rightV (.mk ky sy ny iy) = 0
    · rw [hq]
      have hR1 := HR.out
      rw [if_neg (by rintro (h | h); exact h HR0.out; exact h hq)] at hR1
      have HR1 := Lib.hid hR1
      clear hR1 HR hq HR0
      by_cases hk : kx = 1
      · have hR1 := HR1.out
        rw [if_neg (by simp [hk])] at hR1
        have HR2 := Lib.hid hR1
        clear hR1 HR1
        by_cases hl : 1 < sx.length
        · have hR1 := HR2.out
          rw [if_pos hl] at hR1
          subst hR1
          go_wp2_with fail
          go_ret
          exact ⟨rfl, hE4⟩
        · have hR1 := HR2.out
          rw [if_neg hl] at hR1
          have HR3 := Lib.hid hR1
          clear hR1 HR2
          by_cases hn : nx.length = sy.length
          · have hR1 := HR3.out
            rw [if_neg (by simp [hn])] at hR1
            have HR4 := Lib.hid hR1
            clear hR1 HR3
            go_wp2_with fail
            have HC := containsFunc_wrong F q2 m2 nx _ _ _ (HN.out.ext hE4) (by unfold lenMax; omega) hC
            rw [hn] at HC
            refine HC.mono ?_
            rintro e w5 ⟨rfl, rfl⟩
            by_cases ha : nx.any (outR sy.length) = true
            · have hR1 := HR4.out
              rw [if_pos ha] at hR1
              subst hR1
              rw [ha]
              go_wp2_with fail
              go_ret
              exact ⟨rfl, hE4⟩
            · have hR1 := HR4.out
              rw [if_neg ha] at hR1
              subst hR1
              rw [Bool.eq_false_iff.2 ha]
              go_wp2_with fail
              go_ret
              exact ⟨rfl, hE4⟩
          · have hR1 := HR3.out
            rw [if_pos hn] at hR1
            subst hR1
            go_wp2_with fail
            go_ret
            exact ⟨rfl, hE4⟩
      · have hR1 := HR1.out
        rw [if_pos hk] at hR1
        subst hR1
        go_wp2_with fail
        go_ret
        exact ⟨rfl, hE4⟩
    · have hR1 := HR.out
      rw [if_pos (.inr hq)] at hR1
      subst hR1
      generalize rightV (.mk ky sy ny iy) = rv at *
      go_wp2_with fail
      go_ret
      exact ⟨rfl, hE4⟩
  · have hR1 := HR.out
    rw [if_pos (.inl hr)] at hR1
    subst hR1
    generalize rightV (.mk kx sx nx ix) = rv at *
    go_wp2_with fail
    go_ret
    exact ⟨rfl, hE2⟩
end Go.Proofs.Ytcmnlnamgnbemaa
